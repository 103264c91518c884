/- FnExactOpGet returns true for every text. The package-level variables that its row lists are tied; no condition of ours. -/
import Derived.Test.YtjalboplilolkaaDoorOpGet
import Derived.Test.YtjalboplilolkaaDoorCardNum
namespace Go.Proofs.YtjalboplilolkaaDoor.lawExactOpGet
open Go.ChangeShapes Go.WideShapes Go.ChangeAt Go.RowKit
set_option maxRecDepth 100000
set_option linter.unusedVariables false
set_option linter.unusedSimpArgs false

set_option maxHeartbeats 2000000 in
theorem eqOp_true (o : OpD) (w : World) : Calls Tryd.prog 33 #[o.v, o.v] w fun e w' => e = .returned (.bool true) ∧ Below w.heap.size w w' := by
  obtain ⟨a, b, c, d, e⟩ := o
  simp only [OpD.v]
  have HBa := Lib.hid (below_alloc (below_alloc (Below.refl w.heap.size w) (.cells #[.int .i64 a, .string b, .string c, .int .i64 d, .string e] 54)) (.cells #[.int .i64 a, .string b, .string c, .int .i64 d, .string e] 54))
  have q1 : (b.toList == b.toList) = true := by simp
  have q2 : (c.toList == c.toList) = true := by simp
  have q3 : (e.toList == e.toList) = true := by simp
  have q4 : (a == a) = true := by simp
  have q5 : (d == d) = true := by simp
  go_enter Tryd.func33, Tryd.ntmps33
  go_wp2_with fail
  go_ret
  exact ⟨rfl, HBa.out⟩

set_option maxHeartbeats 4000000 in
theorem walk (w : World) (s : ByteArray) (hM : MaxAt w) (hT : TenAt w) (hE : ErrAt w) : Calls Tryd.prog 9 #[.string s] w fun e w' => e = .returned (.bool true) ∧ Below w.heap.size w w' := by
  by_cases hbig : 1048576 < s.size
  · go_enter Tryd.func9, Tryd.ntmps9
    go_wp2
    go_ret
    exact ⟨rfl, Below.refl _ _⟩
  have HS := Lib.hid (specOpGet_any w s (by omega))
  have HI := Lib.hid (fun W (hB : Below w.heap.size w W) => opGet_any W s (hM.below hB) (hT.below hB) (hE.below hB) (by omega))
  have HE := Lib.hid (fun o w => eqOp_true o w)
  clear hM hT hE
  go_enter Tryd.func9, Tryd.ntmps9
  go_wp2_with fail
  refine Calls.mono HS.out ?_
  rintro e w1 ⟨o, B, rfl, hG, hB⟩
  have HG := Lib.hid hG
  have HEO := Lib.hid (HE.out o)
  obtain ⟨a, b, c, d, e⟩ := o
  simp only [OpD.v] at HEO ⊢
  have hBa := below_alloc hB (.cells #[.int .i64 a, .string b, .string c, .int .i64 d, .string e] 54)
  have BX := Lib.hid (box_new w1 #[.int .i64 a, .string b, .string c, .int .i64 d, .string e] 54)
  have HB1 := Lib.hid hBa
  clear hG hB hBa HE HS
  go_wp2_with fail
  refine Calls.mono (HI.out _ HB1.out) ?_
  rintro e2 w2 ⟨o', B', rfl, hG, hB⟩
  obtain ⟨rfl, rfl⟩ := opG_one hG HG.out
  simp only [OpD.v]
  have BX2 := Lib.hid (BX.out.below hB)
  have HB2 := Lib.hid (below_alloc (below_below HB1.out hB) (.cells #[.int .i64 a, .string b, .string c, .int .i64 d, .string e] 54))
  have bx2 := BX2.out.cell
  have hl2 := BX2.out.lt
  have eB : (B' != B') = false := by simp
  clear hG hB BX HB1 HI
  go_wp2_with fail
  refine Calls.mono (HEO.out _) ?_
  rintro e3 w3 ⟨rfl, hB⟩
  have HB3 := Lib.hid (below_below HB2.out hB)
  clear hB
  go_wp2_with fail
  go_ret
  exact ⟨rfl, HB3.out⟩

theorem laid_met (os : Os) : laidMet Tryd.prog Rows.fnExactOpGetRow.laid ((World.laidAll Tryd.prog os Rows.fnExactOpGetRow.laid).forCall (fun _ _ => 0) ⟨#[], #[.string ⟨#[]⟩], []⟩).memory := laidMet_laidAll _ (by kernel_rfl) (by kernel_rfl)
theorem reads (os : Os) {H : Type} (enc : TypeId × Value → H) : ∃ places, DataW.whole enc Tryd.prog ((World.laidAll Tryd.prog os Rows.fnExactOpGetRow.laid).forCall (fun _ _ => 0) ⟨#[], #[.string ⟨#[]⟩], []⟩).memory Tryd.f9.params.toList Rows.fnExactOpGetSpec.vars false (#[.string ⟨#[]⟩] : Array Value).toList 8 = some ([.lit (.string [])], [], places) :=
  ⟨[], by kernel_rfl⟩

set_option maxRecDepth 100000 in
theorem lifted (os : Os) (started : os.Started) (H : Type) (enc : TypeId × Value → H) (F : Stop.Interp) :
    ReturnsInHanded {} Tryd.checked os 9 .any ((OpenSpec.ofChange Rows.fnExactOpGetSpec).preRow enc Tryd.prog Tryd.f9 Rows.fnExactOpGetRow.domain false Rows.fnExactOpGetRow.laid) (((OpenSpec.ofChange Rows.fnExactOpGetSpec).at F).post enc Tryd.prog Tryd.f9 false true false false) := by
  obtain ⟨places, hx⟩ := reads os enc
  refine returnsInHanded_of_row (C := Tryd.checked) (s := OpenSpec.ofChange Rows.fnExactOpGetSpec) own started (by kernel_rfl) Tryd.func9
    (witness_row_at (enc := enc) (C := Tryd.checked) false (World.laidAll Tryd.prog os Rows.fnExactOpGetRow.laid) #[.string ⟨#[]⟩] (World.laidAll_os _ _ _) (by kernel_rfl) (by kernel_rfl) (by kernel_rfl)
      (OpenSpec.preRow_of_cond 8 hx (by kernel_rfl) (fun k hk => by cases hk) (by kernel_rfl) (laid_met os))) ?_
  intro W base args ds gs before hval0 hW _ _ _ hL hsh _
  have hval : ∀ (j : Nat) t v, Tryd.f9.params[j]? = some t → args[j]? = some v → Value.okWide Tryd.prog W .any base t v := hval0
  have hW' := hW
  obtain ⟨p, q, hA, hV, rfl, hfz, hnd⟩ := hW
  obtain ⟨rfl, rfl⟩ := trodVars_none hV
  have hA0 : DataW.TrodAll enc Tryd.prog W 0 (fun _ => true) true Tryd.f9.params.toList args.toList ds p := hA
  rw [Tryd.params9] at hA0 hval
  obtain ⟨v0, vs0, d0, ds0, p0, q0, hargs, rfl, rfl, h0, r0⟩ := trodAll_cons hA0
  obtain ⟨rfl, rfl, rfl⟩ := trodAll_nil r0
  obtain rfl : args = #[v0] := by cases args; simp_all
  obtain ⟨s, rfl, _, _, hs0⟩ := Go.ChangeMaps.open_string Tryd.underlying9 (hval 0 9 v0 rfl rfl) h0
  have hs : s.size ≤ 9223372036854775807 := by unfold maxLen at hs0; omega
  refine (walk W s (cutAt_of hsh) (tenAt_of hL.tail.tail) (errAt_of hL.tail.tail.tail.tail.tail)).mono fun e W' ⟨he, bel⟩ => ?_
  subst he
  exact ⟨_, rfl, law_post (s := Rows.fnExactOpGetSpec) rfl (by kernel_rfl) (params_ok (by kernel_rfl)) hW' rfl rfl rfl bel⟩

theorem said : Rows.FnExactOpGetSaid :=
  OpenClaim.holds_of_cond 9 Tryd.f9 rfl rfl rfl rfl rfl rfl rfl ⟨rfl, rfl, rfl, rfl, rfl⟩ rfl rfl rfl rfl rfl (by kernel_rfl) Tryd.func9 (by kernel_rfl)
    (of_decide_eq_true (by kernel_rfl)) (by unfold Func.isWrapper; first | (rw [if_pos (by decide +kernel)]; kernel_rfl) | (rw [if_neg (by decide +kernel)]; exact ⟨rfl, rfl⟩))
    (fun os started H enc _ F => by rw [OpenClaim.pre_eq_preRow]; exact lifted os started H enc F)

theorem plain (f : FuncId) (fn : Func) (hf : Tryd.pinned.checked.prog.funcNamed "loop.example/poolfiles/laws.FnExactOpGet" = some f) (hfn : Tryd.pinned.checked.prog.funcs[f]? = some fn) :
    true = Tryd.pinned.checked.prog.looks [] ∧ ∀ (j : Nat) t, fn.params[j]? = some t → Tryd.pinned.checked.prog.wantsStandIn t = false := by
  obtain rfl : f = 9 := Option.some.inj ((show Tryd.prog.funcNamed "loop.example/poolfiles/laws.FnExactOpGet" = some 9 by kernel_rfl).symm.trans hf) |>.symm
  obtain rfl : fn = Tryd.f9 := (Option.some.inj (Tryd.func9.symm.trans hfn)).symm
  refine ⟨by kernel_rfl, fun j t ht => ?_⟩
  have hall : (Tryd.f9.params.toList.all fun t => !(Tryd.prog.wantsStandIn t)) = true := by kernel_rfl
  have := List.all_eq_true.1 hall t (Array.mem_toList_iff.2 (Array.mem_of_getElem? ht))
  show Tryd.prog.wantsStandIn t = false
  simpa using this

theorem proved : Rows.FnExactOpGetCardSaid :=
  Claim7.holds_tied_plain_at .later [] _ _ _ _ said (fun _ h => by cases h) (by kernel_rfl) (fun _ h => by cases h) fnExactOpGet_row_tie rfl ⟨rfl, rfl⟩ (by kernel_rfl) rfl plain (by kernel_rfl)

end Go.Proofs.YtjalboplilolkaaDoor.lawExactOpGet
