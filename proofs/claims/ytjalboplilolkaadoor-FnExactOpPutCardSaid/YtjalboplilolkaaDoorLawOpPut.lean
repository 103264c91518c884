/- FnExactOpPut returns true for every operation. The package-level variables that its row lists are tied; no condition of ours. -/
import Derived.Test.YtjalboplilolkaaDoorLawCard
import Derived.Test.YtjalboplilolkaaDoorOpText
import Derived.Test.YtjalboplilolkaaDoorCardNum
import Derived.Test.YtjalboplilolkaaDoorOpHelp
namespace Go.Proofs.YtjalboplilolkaaDoor.lawExactOpPut
open Go.ChangeShapes Go.WideShapes Go.ChangeAt Go.RowKit
set_option linter.unusedVariables false
set_option linter.unusedSimpArgs false

theorem maxAt_of {W : World} (h : W.ShapedOpen Tryd.prog) : MaxAt W := Tryd.laysM146.s1_3 W h

set_option maxHeartbeats 1000000 in
theorem walk (w : World) (o : OpD) (hM : MaxAt w) (hT : TenAt w) (hp : o.path.size ≤ 9223372036854775807) (ht : o.dst.size ≤ 9223372036854775807) (hx : o.text.size ≤ 9223372036854775807) : Calls Tryd.prog 10 #[o.v] w fun e w' => e = .returned (.bool true) ∧ Below w.heap.size w w' := by
  have HZ := Lib.hid (fun w left h0 h1 => szOp_any w o left h0 h1 hp ht hx)
  have HTO := Lib.hid (fun w => toOp_any w o)
  have HS := Lib.hid (fun w => specOpPut_any w o)
  have HI := Lib.hid (fun w => opPut_any w o)
  have HM := Lib.hid (And.intro hM hT)
  have HQ := Lib.hid (And.intro hp (And.intro ht hx))
  generalize opT o = B at *
  generalize hN1 : o.path.size = n1 at *
  generalize hN2 : o.dst.size = n2 at *
  generalize hN3 : o.text.size = n3 at *
  obtain ⟨kd, pa, dst, at_, tx⟩ := o
  simp only [OpD.v] at HZ HTO HS HI ⊢
  have HBa := Lib.hid (below_alloc (Below.refl w.heap.size w) (.cells #[.int .i64 kd, .string pa, .string dst, .int .i64 at_, .string tx] 58))
  clear hM hT
  go_enter Tryd.func10, Tryd.ntmps10
  go_wp2_with fail
  refine Calls.mono (HZ.out _ _ (by omega) (by omega)) ?_
  rintro e w1 ⟨r, rfl, hr, hB1⟩
  have HB1 := Lib.hid (below_below HBa.out hB1)
  obtain ⟨c1, f1⟩ := bcell hB1
  have hz1 : w.heap.size < w1.heap.size := (by have := hB1.size; simp at this; omega)
  clear hB1
  by_cases hneg : r < 0
  · go_wp2_with fail
    go_ret
    exact ⟨rfl, HB1.out⟩
  have hsum := hr (by omega)
  dsimp only at hsum hN1 hN2 hN3
  go_wp2_with fail
  refine Calls.mono (HTO.out _) ?_
  rintro e w2 ⟨rfl, hB2⟩
  have HB2 := Lib.hid (below_below HB1.out hB2)
  obtain ⟨c2, f2⟩ := bcell hB2
  have hz2 : w.heap.size < w2.heap.size := Nat.lt_of_lt_of_le hz1 hB2.size
  clear hB2
  go_wp2_with fail
  refine Calls.mono (HS.out _ (by omega) (by omega) (by omega)) ?_
  rintro e w3 ⟨rfl, hB3⟩
  have HB3 := Lib.hid (below_below HB2.out hB3)
  obtain ⟨c3, f3⟩ := bcell hB3
  have hz3 : w.heap.size < w3.heap.size := Nat.lt_of_lt_of_le hz2 hB3.size
  clear hB3
  go_wp2_with fail
  refine Calls.mono (HTO.out _) ?_
  rintro e w4 ⟨rfl, hB4⟩
  have HB4 := Lib.hid (below_below HB3.out hB4)
  clear hB4
  go_wp2_with fail
  refine Calls.mono (HI.out _ (HM.out.1.below HB4.out) (HM.out.2.below HB4.out) (by omega) (by omega) (by omega)) ?_
  rintro e w5 ⟨rfl, hB5⟩
  have HB5 := Lib.hid (below_below HB4.out hB5)
  clear hB5
  have e1 : (B.toList == B.toList) = true := by simp
  go_wp2_with fail
  go_ret
  exact ⟨rfl, HB5.out⟩

theorem laid_met (os : Os) : laidMet Tryd.prog Rows.fnExactOpPutRow.laid ((World.laidAll Tryd.prog os Rows.fnExactOpPutRow.laid).forCall (fun _ _ => 0) ⟨#[], #[.agg #[.int .i64 0, .string ⟨#[]⟩, .string ⟨#[]⟩, .int .i64 0, .string ⟨#[]⟩]], []⟩).memory := laidMet_laidAll _ (by kernel_rfl) (by kernel_rfl)
theorem reads (os : Os) {H : Type} (enc : TypeId × Value → H) : ∃ places, DataW.whole enc Tryd.prog ((World.laidAll Tryd.prog os Rows.fnExactOpPutRow.laid).forCall (fun _ _ => 0) ⟨#[], #[.agg #[.int .i64 0, .string ⟨#[]⟩, .string ⟨#[]⟩, .int .i64 0, .string ⟨#[]⟩]], []⟩).memory Tryd.f10.params.toList Rows.fnExactOpPutSpec.vars false (#[.agg #[.int .i64 0, .string ⟨#[]⟩, .string ⟨#[]⟩, .int .i64 0, .string ⟨#[]⟩]] : Array Value).toList 8 = some ([.agg [.lit (.int .i64 0), .lit (.string []), .lit (.string []), .lit (.int .i64 0), .lit (.string [])]], [], places) :=
  ⟨[], by kernel_rfl⟩

set_option maxRecDepth 100000 in
theorem lifted (os : Os) (started : os.Started) (H : Type) (enc : TypeId × Value → H) (F : Stop.Interp) :
    ReturnsInHanded {} Tryd.checked os 10 .any ((OpenSpec.ofChange Rows.fnExactOpPutSpec).preRow enc Tryd.prog Tryd.f10 Rows.fnExactOpPutRow.domain false Rows.fnExactOpPutRow.laid) (((OpenSpec.ofChange Rows.fnExactOpPutSpec).at F).post enc Tryd.prog Tryd.f10 false true false false) := by
  obtain ⟨places, hx⟩ := reads os enc
  refine returnsInHanded_of_row (C := Tryd.checked) (s := OpenSpec.ofChange Rows.fnExactOpPutSpec) own started (by kernel_rfl) Tryd.func10
    (witness_row_at (enc := enc) (C := Tryd.checked) false (World.laidAll Tryd.prog os Rows.fnExactOpPutRow.laid) #[.agg #[.int .i64 0, .string ⟨#[]⟩, .string ⟨#[]⟩, .int .i64 0, .string ⟨#[]⟩]] (World.laidAll_os _ _ _) (by kernel_rfl) (by kernel_rfl) (by kernel_rfl)
      (OpenSpec.preRow_of_cond 8 hx (by kernel_rfl) (fun k hk => by cases hk) (by kernel_rfl) (laid_met os))) ?_
  intro W base args ds gs before hval0 hW _ _ _ hL hsh _
  have hval : ∀ (j : Nat) t v, Tryd.f10.params[j]? = some t → args[j]? = some v → Value.okWide Tryd.prog W .any base t v := hval0
  have hW' := hW
  obtain ⟨p, q, hA, hV, rfl, hfz, hnd⟩ := hW
  obtain ⟨rfl, rfl⟩ := trodVars_none hV
  have hA0 : DataW.TrodAll enc Tryd.prog W 0 (fun _ => true) true Tryd.f10.params.toList args.toList ds p := hA
  rw [Tryd.params10] at hA0 hval
  obtain ⟨v0, vs0, d0, ds0, p0, q0, hargs, rfl, rfl, h0, r0⟩ := trodAll_cons hA0
  obtain ⟨rfl, rfl, rfl⟩ := trodAll_nil r0
  obtain rfl : args = #[v0] := by cases args; simp_all
  obtain ⟨o, rfl, o1, o2, o3⟩ := open_op (hval 0 58 v0 rfl rfl) h0
  refine (walk W o (maxAt_of hsh) (tenAt_of hL.tail.tail) o1 o2 o3).mono fun e W' ⟨he, bel⟩ => ?_
  subst he
  exact ⟨_, rfl, law_post (s := Rows.fnExactOpPutSpec) rfl (by kernel_rfl) (params_ok (by kernel_rfl)) hW' rfl rfl rfl bel⟩

theorem said : Rows.FnExactOpPutSaid :=
  OpenClaim.holds_of_cond 10 Tryd.f10 rfl rfl rfl rfl rfl rfl rfl ⟨rfl, rfl, rfl, rfl, rfl⟩ rfl rfl rfl rfl rfl (by kernel_rfl) Tryd.func10 (by kernel_rfl)
    (of_decide_eq_true (by kernel_rfl)) (by unfold Func.isWrapper; first | (rw [if_pos (by decide +kernel)]; kernel_rfl) | (rw [if_neg (by decide +kernel)]; exact ⟨rfl, rfl⟩))
    (fun os started H enc _ F => by rw [OpenClaim.pre_eq_preRow]; exact lifted os started H enc F)

theorem plain (f : FuncId) (fn : Func) (hf : Tryd.pinned.checked.prog.funcNamed "loop.example/poolfiles/laws.FnExactOpPut" = some f) (hfn : Tryd.pinned.checked.prog.funcs[f]? = some fn) :
    true = Tryd.pinned.checked.prog.looks [] ∧ ∀ (j : Nat) t, fn.params[j]? = some t → Tryd.pinned.checked.prog.wantsStandIn t = false := by
  obtain rfl : f = 10 := Option.some.inj ((show Tryd.prog.funcNamed "loop.example/poolfiles/laws.FnExactOpPut" = some 10 by kernel_rfl).symm.trans hf) |>.symm
  obtain rfl : fn = Tryd.f10 := (Option.some.inj (Tryd.func10.symm.trans hfn)).symm
  refine ⟨by kernel_rfl, fun j t ht => ?_⟩
  have hall : (Tryd.f10.params.toList.all fun t => !(Tryd.prog.wantsStandIn t)) = true := by kernel_rfl
  have := List.all_eq_true.1 hall t (Array.mem_toList_iff.2 (Array.mem_of_getElem? ht))
  show Tryd.prog.wantsStandIn t = false
  simpa using this

theorem proved : Rows.FnExactOpPutCardSaid :=
  Claim7.holds_tied_plain_at .later [] _ _ _ _ said (fun _ h => by cases h) (by kernel_rfl) (fun _ h => by cases h) fnExactOpPut_row_tie rfl ⟨rfl, rfl⟩ (by kernel_rfl) rfl plain (by kernel_rfl)

end Go.Proofs.YtjalboplilolkaaDoor.lawExactOpPut
