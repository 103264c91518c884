/- FnExactNodePut returns true for every node. The package-level variables that its row lists are tied; no condition of ours. -/
import Derived.Test.YthedmiippfpbnaaDoorLawCard
import Derived.Test.YthedmiippfpbnaaDoorNodeText
import Derived.Test.YthedmiippfpbnaaDoorCardNum
import Derived.Test.YthedmiippfpbnaaDoorNodeHelp
namespace Go.Proofs.YthedmiippfpbnaaDoor.lawExactNodePut
open Go.ChangeShapes Go.WideShapes Go.ChangeAt Go.RowKit
set_option linter.unusedVariables false
set_option linter.unusedSimpArgs false

set_option maxHeartbeats 1000000 in
theorem walk (w : World) (o : Nd) (hT : TenAt w) : Calls Tryd.prog 3 #[o.v] w fun e w' => e = .returned (.bool true) ∧ Below w.heap.size w w' := by
  have HTO := Lib.hid (fun w => toNode_any o w)
  have HS := Lib.hid (fun w => specNodePut_any w o)
  have HI := Lib.hid (fun w hT => nodePut_any w o hT)
  have HT := Lib.hid hT
  clear hT
  generalize nodeT o = B at *
  obtain ⟨k, li, s, ⟨a, b, z, u, l⟩, d, m⟩ := o
  unfold Nd.v at *
  dsimp only at *
  have HBa := Lib.hid (below_alloc (Below.refl w.heap.size w) (.cells #[.int .i64 k, .int .i64 li, .int .i64 s, .int .i64 a, .int .i64 b, .int .i64 z, .int .i64 u, .int .i64 l, .int .i64 d, .int .i64 m] 27))
  go_enter Tryd.func3, Tryd.ntmps3
  go_wp2_with fail
  refine Calls.mono (HTO.out _) ?_
  rintro e w2 ⟨rfl, hB2⟩
  have HB2 := Lib.hid (below_below HBa.out hB2)
  obtain ⟨c2, f2⟩ := bcell hB2
  have hz2 : w.heap.size < w2.heap.size := (by have := hB2.size; simp at this; omega)
  clear hB2
  go_wp2_with fail
  refine Calls.mono (HS.out _) ?_
  rintro e w3 ⟨rfl, hB3⟩
  have HB3 := Lib.hid (below_below HB2.out hB3)
  obtain ⟨c3, f3⟩ := bcell hB3
  have hz3 : w.heap.size < w3.heap.size := Nat.lt_of_lt_of_le hz2 hB3.size
  clear hB3
  go_wp2_with fail
  refine Calls.mono (HTO.out _) ?_
  rintro e w4 ⟨rfl, hB4⟩
  have HB4 := Lib.hid (below_below HB3.out hB4)
  clear hB4
  go_wp2_with fail
  refine Calls.mono (HI.out _ (HT.out.below HB4.out)) ?_
  rintro e w5 ⟨rfl, hB5⟩
  have HB5 := Lib.hid (below_below HB4.out hB5)
  clear hB5
  have e1 : (B.toList == B.toList) = true := by simp
  go_wp2_with fail
  go_ret
  exact ⟨rfl, HB5.out⟩

theorem laid_met (os : Os) : laidMet Tryd.prog Rows.fnExactNodePutRow.laid ((World.laidAll Tryd.prog os Rows.fnExactNodePutRow.laid).forCall (fun _ _ => 0) ⟨#[], #[.agg #[.int .i64 0, .int .i64 0, .int .i64 0, .int .i64 0, .int .i64 0, .int .i64 0, .int .i64 0, .int .i64 0, .int .i64 0, .int .i64 0]], []⟩).memory := laidMet_laidAll _ (by kernel_rfl) (by kernel_rfl)
theorem reads (os : Os) {H : Type} (enc : TypeId × Value → H) : ∃ places, DataW.whole enc Tryd.prog ((World.laidAll Tryd.prog os Rows.fnExactNodePutRow.laid).forCall (fun _ _ => 0) ⟨#[], #[.agg #[.int .i64 0, .int .i64 0, .int .i64 0, .int .i64 0, .int .i64 0, .int .i64 0, .int .i64 0, .int .i64 0, .int .i64 0, .int .i64 0]], []⟩).memory Tryd.f3.params.toList Rows.fnExactNodePutSpec.vars false (#[.agg #[.int .i64 0, .int .i64 0, .int .i64 0, .int .i64 0, .int .i64 0, .int .i64 0, .int .i64 0, .int .i64 0, .int .i64 0, .int .i64 0]] : Array Value).toList 8 = some ([.agg [.lit (.int .i64 0), .lit (.int .i64 0), .lit (.int .i64 0), .agg [.agg [.lit (.int .i64 0), .lit (.int .i64 0), .lit (.int .i64 0), .lit (.int .i64 0), .lit (.int .i64 0)], .lit (.int .i64 0), .lit (.int .i64 0)]]], [], places) :=
  ⟨[], by kernel_rfl⟩

set_option maxRecDepth 100000 in
theorem lifted (os : Os) (started : os.Started) (H : Type) (enc : TypeId × Value → H) (F : Stop.Interp) :
    ReturnsInHanded {} Tryd.checked os 3 .any ((OpenSpec.ofChange Rows.fnExactNodePutSpec).preRow enc Tryd.prog Tryd.f3 Rows.fnExactNodePutRow.domain false Rows.fnExactNodePutRow.laid) (((OpenSpec.ofChange Rows.fnExactNodePutSpec).at F).post enc Tryd.prog Tryd.f3 false true false false) := by
  obtain ⟨places, hx⟩ := reads os enc
  refine returnsInHanded_of_row (C := Tryd.checked) (s := OpenSpec.ofChange Rows.fnExactNodePutSpec) own started (by kernel_rfl) Tryd.func3
    (witness_row_at (enc := enc) (C := Tryd.checked) false (World.laidAll Tryd.prog os Rows.fnExactNodePutRow.laid) #[.agg #[.int .i64 0, .int .i64 0, .int .i64 0, .int .i64 0, .int .i64 0, .int .i64 0, .int .i64 0, .int .i64 0, .int .i64 0, .int .i64 0]] (World.laidAll_os _ _ _) (by kernel_rfl) (by kernel_rfl) (by kernel_rfl)
      (OpenSpec.preRow_of_cond 8 hx (by kernel_rfl) (fun k hk => by cases hk) (by kernel_rfl) (laid_met os))) ?_
  intro W base args ds gs before hval0 hW _ _ _ hL hsh _
  have hval : ∀ (j : Nat) t v, Tryd.f3.params[j]? = some t → args[j]? = some v → Value.okWide Tryd.prog W .any base t v := hval0
  have hW' := hW
  obtain ⟨p, q, hA, hV, rfl, hfz, hnd⟩ := hW
  obtain ⟨rfl, rfl⟩ := trodVars_none hV
  have hA0 : DataW.TrodAll enc Tryd.prog W 0 (fun _ => true) true Tryd.f3.params.toList args.toList ds p := hA
  rw [Tryd.params3] at hA0 hval
  obtain ⟨v0, vs0, d0, ds0, p0, q0, hargs, rfl, rfl, h0, r0⟩ := trodAll_cons hA0
  obtain ⟨rfl, rfl, rfl⟩ := trodAll_nil r0
  obtain rfl : args = #[v0] := by cases args; simp_all
  obtain ⟨o, rfl⟩ := open_node (hval 0 27 v0 rfl rfl) h0
  refine (walk W o (tenAt_of hL.tail.tail)).mono fun e W' ⟨he, bel⟩ => ?_
  subst he
  exact ⟨_, rfl, law_post (s := Rows.fnExactNodePutSpec) rfl (by kernel_rfl) (params_ok (by kernel_rfl)) hW' rfl rfl rfl bel⟩

theorem said : Rows.FnExactNodePutSaid :=
  OpenClaim.holds_of_cond 3 Tryd.f3 rfl rfl rfl rfl rfl rfl rfl ⟨rfl, rfl, rfl, rfl, rfl⟩ rfl rfl rfl rfl rfl (by kernel_rfl) Tryd.func3 (by kernel_rfl)
    (of_decide_eq_true (by kernel_rfl)) (by unfold Func.isWrapper; first | (rw [if_pos (by decide +kernel)]; kernel_rfl) | (rw [if_neg (by decide +kernel)]; exact ⟨rfl, rfl⟩))
    (fun os started H enc _ F => by rw [OpenClaim.pre_eq_preRow]; exact lifted os started H enc F)

theorem plain (f : FuncId) (fn : Func) (hf : Tryd.pinned.checked.prog.funcNamed "loop.example/poolfiles/laws.FnExactNodePut" = some f) (hfn : Tryd.pinned.checked.prog.funcs[f]? = some fn) :
    false = Tryd.pinned.checked.prog.looks [] ∧ ∀ (j : Nat) t, fn.params[j]? = some t → Tryd.pinned.checked.prog.wantsStandIn t = false := by
  obtain rfl : f = 3 := Option.some.inj ((show Tryd.prog.funcNamed "loop.example/poolfiles/laws.FnExactNodePut" = some 3 by kernel_rfl).symm.trans hf) |>.symm
  obtain rfl : fn = Tryd.f3 := (Option.some.inj (Tryd.func3.symm.trans hfn)).symm
  refine ⟨by kernel_rfl, fun j t ht => ?_⟩
  have hall : (Tryd.f3.params.toList.all fun t => !(Tryd.prog.wantsStandIn t)) = true := by kernel_rfl
  have := List.all_eq_true.1 hall t (Array.mem_toList_iff.2 (Array.mem_of_getElem? ht))
  show Tryd.prog.wantsStandIn t = false
  simpa using this

theorem proved : Rows.FnExactNodePutCardSaid :=
  Claim7.holds_tied_plain_at .later [] _ _ _ _ said (fun _ h => by cases h) (by kernel_rfl) (fun _ h => by cases h) fnExactNodePut_row_tie rfl ⟨rfl, rfl⟩ (by kernel_rfl) rfl plain (by kernel_rfl)

end Go.Proofs.YthedmiippfpbnaaDoor.lawExactNodePut
