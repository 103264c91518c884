/- FnPathNames returns true for every code. The package-level variables that its row lists are tied; no condition of ours. -/
import Derived.Test.YtanccfiiemlmeaaDoorLawCard
import Derived.Test.YtanccfiiemlmeaaDoorPathImpl3
import Derived.Test.YtanccfiiemlmeaaDoorDrawPath2
import Derived.Test.YtanccfiiemlmeaaDoorPfTexts
namespace Go.Proofs.YtanccfiiemlmeaaDoor.lawFnPathNames
open Go.ChangeShapes Go.WideShapes Go.ChangeAt Go.RowKit
set_option linter.unusedVariables false
set_option linter.unusedSimpArgs false

theorem maxAt_of {W : World} (h : W.ShapedOpen Tryd.prog) : MaxAt W := Tryd.laysM146.s1_3 W h

set_option maxHeartbeats 4000000 in
theorem walk (w : World) (A : Option Addr) (cap : Nat) (zs : List Int) (h : RdT (encI .u8) 1 w A zs) (hb : ∀ z ∈ zs, 0 ≤ z ∧ z ≤ 255) (hc : zs.length ≤ cap) (hm : cap ≤ 9223372036854775807) (hM : MaxAt w) :
    Calls Tryd.prog 14 #[.slice A zs.length cap] w fun e w' => e = .returned (.bool true) ∧ Below w.heap.size w w' := by
  have HD := Lib.hid (drawPathNames_any w A cap zs h hb hc hm)
  have HM := Lib.hid hM
  clear h hb hM
  generalize zs.length = n at HD hc ⊢
  by_cases hbig : 1048576 < n
  · clear HD
    go_enter Tryd.func14, Tryd.ntmps14
    go_wp2
    go_ret
    exact ⟨rfl, Below.refl _ _⟩

  go_enter Tryd.func14, Tryd.ntmps14
  go_wp2_with fail
  refine Calls.mono HD.out ?_
  rintro e w1 ⟨s, rfl, hs, hB⟩
  have HB1 := Lib.hid hB
  clear hB HD
  have HI := Lib.hid (fun w hM => pathNames_any w s hM (by omega))
  have HS := Lib.hid (fun w => specPathNames_any w s (by omega))
  cases hx : pathB s
  · have e0 := namesT_no hx
    rw [hx, e0] at HI HS
    go_wp2_with fail
    refine Calls.mono (HI.out w1 (HM.out.below HB1.out)) ?_
    rintro e w2 ⟨v, rfl, hO, hB⟩
    have HB2 := Lib.hid (below_below HB1.out hB)
    clear hB
    obtain ⟨A1, c1, rfl, hc1, hcm1, _, hrd1⟩ := hO.form
    have HR1 := Lib.hid hrd1
    clear hO hrd1
    go_wp2_with fail
    refine Calls.mono (HS.out w2) ?_
    rintro e w3 ⟨v, rfl, hO, hB⟩
    have HB3 := Lib.hid (below_below HB2.out hB)
    have HR1 := Lib.hid (HR1.out.below hB)
    clear hB
    obtain ⟨A2, c2, rfl, hc2, hcm2, _, hrd2⟩ := hO.form
    have HR2 := Lib.hid hrd2
    clear hO hrd2
    go_wp2_with fail
    refine Calls.mono (pfTexts_true w3 A1 A2 c1 c2 [] HR1.out HR2.out hc1 hc2 hcm1) ?_
    rintro e w4 ⟨rfl, hB⟩
    have HB4 := Lib.hid (below_below HB3.out hB)
    clear hB
    go_wp2_with fail
    go_ret
    exact ⟨rfl, HB4.out⟩
  · obtain ⟨j1, j2, j3⟩ := names_law hx
    have hzz : ∀ x ∈ namesT s, x.size ≤ 9223372036854775807 := fun x hx => by have := nameB_size ((all_nameB j1).2 x hx); omega
    have HZ := Lib.hid hzz
    have HO := Lib.hid (fun w A c (h : RdT encS 1 w A (namesT s)) hc hm => pathOf_any w A c (namesT s) h hc hm HZ.out)
    rw [j1, j2] at HO
    rw [hx] at HI HS
    clear j1 j2 hx hzz
    generalize namesT s = xs at *
    go_wp2_with fail
    refine Calls.mono (HI.out w1 (HM.out.below HB1.out)) ?_
    rintro e w2 ⟨v, rfl, hO, hB⟩
    have HB2 := Lib.hid (below_below HB1.out hB)
    clear hB
    obtain ⟨A1, c1, rfl, hc1, hcm1, _, hrd1⟩ := hO.form
    have HR1 := Lib.hid hrd1
    clear hO hrd1
    go_wp2_with fail
    refine Calls.mono (HS.out w2) ?_
    rintro e w3 ⟨v, rfl, hO, hB⟩
    have HB3 := Lib.hid (below_below HB2.out hB)
    have HR1 := Lib.hid (HR1.out.below hB)
    clear hB
    obtain ⟨A2, c2, rfl, hc2, hcm2, _, hrd2⟩ := hO.form
    have HR2 := Lib.hid hrd2
    clear hO hrd2
    go_wp2_with fail
    refine Calls.mono (pfTexts_true w3 A1 A2 c1 c2 xs HR1.out HR2.out hc1 hc2 hcm1) ?_
    rintro e w4 ⟨rfl, hB⟩
    have HB4 := Lib.hid (below_below HB3.out hB)
    have HR1 := Lib.hid (HR1.out.below hB)
    clear hB
    go_wp2_with fail
    refine Calls.mono (HO.out w4 A1 c1 HR1.out hc1 hcm1) ?_
    rintro e w5 ⟨rfl, hB⟩
    have HB5 := Lib.hid (below_below HB4.out hB)
    clear hB
    go_wp2_with fail
    go_ret
    exact ⟨ret_bool (decide_eq_true (by omega)), HB5.out⟩

theorem laid_met (os : Os) : laidMet Tryd.prog Rows.fnPathNamesRow.laid ((World.laidAll Tryd.prog os Rows.fnPathNamesRow.laid).forCall (fun _ _ => 0) ⟨#[], #[.slice none 0 0], []⟩).memory := laidMet_laidAll _ (by kernel_rfl) (by kernel_rfl)
theorem reads (os : Os) {H : Type} (enc : TypeId × Value → H) : ∃ places, DataW.whole enc Tryd.prog ((World.laidAll Tryd.prog os Rows.fnPathNamesRow.laid).forCall (fun _ _ => 0) ⟨#[], #[.slice none 0 0], []⟩).memory Tryd.f14.params.toList Rows.fnPathNamesSpec.vars false (#[.slice none 0 0] : Array Value).toList 8 = some ([.nil], [], places) :=
  ⟨[], by kernel_rfl⟩

set_option maxRecDepth 100000 in
theorem lifted (os : Os) (started : os.Started) (H : Type) (enc : TypeId × Value → H) (F : Stop.Interp) :
    ReturnsInHanded {} Tryd.checked os 14 .any ((OpenSpec.ofChange Rows.fnPathNamesSpec).preRow enc Tryd.prog Tryd.f14 Rows.fnPathNamesRow.domain false Rows.fnPathNamesRow.laid) (((OpenSpec.ofChange Rows.fnPathNamesSpec).at F).post enc Tryd.prog Tryd.f14 false true false false) := by
  obtain ⟨places, hx⟩ := reads os enc
  refine returnsInHanded_of_row (C := Tryd.checked) (s := OpenSpec.ofChange Rows.fnPathNamesSpec) own started (by kernel_rfl) Tryd.func14
    (witness_row_at (enc := enc) (C := Tryd.checked) false (World.laidAll Tryd.prog os Rows.fnPathNamesRow.laid) #[.slice none 0 0] (World.laidAll_os _ _ _) (by kernel_rfl) (by kernel_rfl) (by kernel_rfl)
      (OpenSpec.preRow_of_cond 8 hx (by kernel_rfl) (fun k hk => by cases hk) (by kernel_rfl) (laid_met os))) ?_
  intro W base args ds gs before hval0 hW _ _ _ hL hsh _
  have hval : ∀ (j : Nat) t v, Tryd.f14.params[j]? = some t → args[j]? = some v → Value.okWide Tryd.prog W .any base t v := hval0
  have hW' := hW
  obtain ⟨p, q, hA, hV, rfl, hfz, hnd⟩ := hW
  obtain ⟨rfl, rfl⟩ := trodVars_none hV
  have hA0 : DataW.TrodAll enc Tryd.prog W 0 (fun _ => true) true Tryd.f14.params.toList args.toList ds p := hA
  rw [Tryd.params14] at hA0 hval
  obtain ⟨v0, vs0, d0, ds0, p0, q0, hargs, rfl, rfl, h0, r0⟩ := trodAll_cons hA0
  obtain ⟨rfl, rfl, rfl⟩ := trodAll_nil r0
  obtain rfl : args = #[v0] := by cases args; simp_all
  obtain ⟨cA, cc, c, rfl, chc, chm, cr, cb⟩ := open_code (hval 0 24 v0 rfl rfl) h0
  refine (walk W cA cc c cr cb chc chm (maxAt_of hsh)).mono fun e W' ⟨he, bel⟩ => ?_
  subst he
  exact ⟨_, rfl, law_post (s := Rows.fnPathNamesSpec) rfl (by kernel_rfl) (params_ok (by kernel_rfl)) hW' rfl rfl rfl bel⟩

theorem said : Rows.FnPathNamesSaid :=
  OpenClaim.holds_of_cond 14 Tryd.f14 rfl rfl rfl rfl rfl rfl rfl ⟨rfl, rfl, rfl, rfl, rfl⟩ rfl rfl rfl rfl rfl (by kernel_rfl) Tryd.func14 (by kernel_rfl)
    (of_decide_eq_true (by kernel_rfl)) (by unfold Func.isWrapper; first | (rw [if_pos (by decide +kernel)]; kernel_rfl) | (rw [if_neg (by decide +kernel)]; exact ⟨rfl, rfl⟩))
    (fun os started H enc _ F => by rw [OpenClaim.pre_eq_preRow]; exact lifted os started H enc F)

theorem plain (f : FuncId) (fn : Func) (hf : Tryd.pinned.checked.prog.funcNamed "loop.example/poolfiles/laws.FnPathNames" = some f) (hfn : Tryd.pinned.checked.prog.funcs[f]? = some fn) :
    false = Tryd.pinned.checked.prog.looks [] ∧ ∀ (j : Nat) t, fn.params[j]? = some t → Tryd.pinned.checked.prog.wantsStandIn t = false := by
  obtain rfl : f = 14 := Option.some.inj ((show Tryd.prog.funcNamed "loop.example/poolfiles/laws.FnPathNames" = some 14 by kernel_rfl).symm.trans hf) |>.symm
  obtain rfl : fn = Tryd.f14 := (Option.some.inj (Tryd.func14.symm.trans hfn)).symm
  refine ⟨by kernel_rfl, fun j t ht => ?_⟩
  have hall : (Tryd.f14.params.toList.all fun t => !(Tryd.prog.wantsStandIn t)) = true := by kernel_rfl
  have := List.all_eq_true.1 hall t (Array.mem_toList_iff.2 (Array.mem_of_getElem? ht))
  show Tryd.prog.wantsStandIn t = false
  simpa using this

theorem proved : Rows.FnPathNamesCardSaid :=
  Claim7.holds_tied_plain_at .later [] _ _ _ _ said (fun _ h => by cases h) (by kernel_rfl) (fun _ h => by cases h) fnPathNames_row_tie rfl ⟨rfl, rfl⟩ (by kernel_rfl) rfl plain (by kernel_rfl)

end Go.Proofs.YtanccfiiemlmeaaDoor.lawFnPathNames
