/- FnPathOf returns true for every code. The package-level variables that its row lists are tied; no condition of ours. -/
import Derived.Test.YtanccfiiemlmeaaDoorLawCard
import Derived.Test.YtanccfiiemlmeaaDoorPathImpl3
import Derived.Test.YtanccfiiemlmeaaDoorDrawPath
import Derived.Test.YtanccfiiemlmeaaDoorPfTexts
namespace Go.Proofs.YtanccfiiemlmeaaDoor.lawFnPathOf
open Go.ChangeShapes Go.WideShapes Go.ChangeAt Go.RowKit
set_option linter.unusedVariables false
set_option linter.unusedSimpArgs false

theorem maxAt_of {W : World} (h : W.ShapedOpen Tryd.prog) : MaxAt W := Tryd.laysM146.s1_3 W h
theorem full {b : ByteArray} (h : b ≠ ByteArray.empty) : b.toList.isEmpty = false := by
  cases he : b.toList
  · exact absurd (ofL_ext (by rw [← Lib.toList_data, he]; rfl)) h
  · rfl

set_option maxHeartbeats 4000000 in
theorem walk (w : World) (A : Option Addr) (cap : Nat) (zs : List Int) (h : RdT (encI .u8) 1 w A zs) (hb : ∀ z ∈ zs, 0 ≤ z ∧ z ≤ 255) (hc : zs.length ≤ cap) (hm : cap ≤ 9223372036854775807) (hM : MaxAt w) :
    Calls Tryd.prog 7 #[.slice A zs.length cap] w fun e w' => e = .returned (.bool true) ∧ Below w.heap.size w w' := by
  have HD := Lib.hid (drawPathOf_any w A cap zs h hb hc hm)
  have HM := Lib.hid hM
  clear h hb hM
  generalize zs.length = n at HD hc ⊢
  by_cases hbig : 1048576 < n
  · clear HD
    go_enter Tryd.func7, Tryd.ntmps7
    go_wp2
    go_ret
    exact ⟨rfl, Below.refl _ _⟩

  go_enter Tryd.func7, Tryd.ntmps7
  go_wp2_with fail
  refine Calls.mono HD.out ?_
  rintro e w1 ⟨v, xs, rfl, hO, hn, hz, hB⟩
  obtain ⟨A1, c1, rfl, hc1, hcm1, _, hrd⟩ := hO.form
  have HR := Lib.hid hrd
  have HB1 := Lib.hid hB
  have HZ := Lib.hid (show ∀ x ∈ xs, x.size ≤ 9223372036854775807 from fun x hx => by have := hz x hx; omega)
  clear hB HD hO hrd
  have HI := Lib.hid (fun w (h : RdT encS 1 w A1 xs) => pathOf_any w A1 c1 xs h hc1 hcm1 HZ.out)
  have HS := Lib.hid (fun w (h : RdT encS 1 w A1 xs) => specPathOf_any w A1 c1 xs h hc1 hcm1 HZ.out)
  cases hx : pathOfB xs
  · rw [hx] at HI HS
    generalize pathOfT xs = u at *
    go_wp2_with fail
    refine Calls.mono (HI.out w1 HR.out) ?_
    rintro e w2 ⟨rfl, hB⟩
    have HB2 := Lib.hid (below_below HB1.out hB)
    have HR := Lib.hid (HR.out.below hB)
    clear hB
    go_wp2_with fail
    refine Calls.mono (HS.out w2 HR.out) ?_
    rintro e w3 ⟨rfl, hB⟩
    have HB3 := Lib.hid (below_below HB2.out hB)
    clear hB
    go_wp2_with fail
    go_ret
    exact ⟨rfl, HB3.out⟩
  · obtain ⟨j1, j2⟩ := of_law hx
    have hu4 : (pathOfT xs).size ≤ 1048576 := by rw [pathOfT, if_pos hx]; have := pathT_size hx; omega
    have HN := Lib.hid (fun w hM => pathNames_any w (pathOfT xs) hM hu4)
    have HO := Lib.hid (fun w hM => pathOk_any w (pathOfT xs) hM hu4)
    rw [hx] at HI HS
    rw [j1, j2] at HN
    rw [j1] at HO
    clear j1 j2 hx
    generalize pathOfT xs = u at *
    go_wp2_with fail
    refine Calls.mono (HI.out w1 HR.out) ?_
    rintro e w2 ⟨rfl, hB⟩
    have HB2 := Lib.hid (below_below HB1.out hB)
    have HR := Lib.hid (HR.out.below hB)
    clear hB
    go_wp2_with fail
    refine Calls.mono (HS.out w2 HR.out) ?_
    rintro e w3 ⟨rfl, hB⟩
    have HB3 := Lib.hid (below_below HB2.out hB)
    have HR := Lib.hid (HR.out.below hB)
    clear hB
    go_wp2_with fail
    refine Calls.mono (HN.out w3 (HM.out.below HB3.out)) ?_
    rintro e w4 ⟨v2, rfl, hO2, hB⟩
    have HB4 := Lib.hid (below_below HB3.out hB)
    have HR := Lib.hid (HR.out.below hB)
    clear hB
    obtain ⟨A2, c2, rfl, hc2, hcm2, _, hrd2⟩ := hO2.form
    have HR2 := Lib.hid hrd2
    clear hO2 hrd2
    go_wp2_with fail
    refine Calls.mono (pfTexts_true w4 A2 A1 c2 c1 xs HR2.out HR.out hc2 hc1 hcm2) ?_
    rintro e w5 ⟨rfl, hB⟩
    have HB5 := Lib.hid (below_below HB4.out hB)
    clear hB
    go_wp2_with fail
    refine Calls.mono (HO.out w5 (HM.out.below HB5.out)) ?_
    rintro e w6 ⟨rfl, hB⟩
    have HB6 := Lib.hid (below_below HB5.out hB)
    clear hB
    go_wp2_with fail
    go_ret
    exact ⟨rfl, HB6.out⟩

theorem laid_met (os : Os) : laidMet Tryd.prog Rows.fnPathOfRow.laid ((World.laidAll Tryd.prog os Rows.fnPathOfRow.laid).forCall (fun _ _ => 0) ⟨#[], #[.slice none 0 0], []⟩).memory := laidMet_laidAll _ (by kernel_rfl) (by kernel_rfl)
theorem reads (os : Os) {H : Type} (enc : TypeId × Value → H) : ∃ places, DataW.whole enc Tryd.prog ((World.laidAll Tryd.prog os Rows.fnPathOfRow.laid).forCall (fun _ _ => 0) ⟨#[], #[.slice none 0 0], []⟩).memory Tryd.f7.params.toList Rows.fnPathOfSpec.vars false (#[.slice none 0 0] : Array Value).toList 8 = some ([.nil], [], places) :=
  ⟨[], by kernel_rfl⟩

set_option maxRecDepth 100000 in
theorem lifted (os : Os) (started : os.Started) (H : Type) (enc : TypeId × Value → H) (F : Stop.Interp) :
    ReturnsInHanded {} Tryd.checked os 7 .any ((OpenSpec.ofChange Rows.fnPathOfSpec).preRow enc Tryd.prog Tryd.f7 Rows.fnPathOfRow.domain false Rows.fnPathOfRow.laid) (((OpenSpec.ofChange Rows.fnPathOfSpec).at F).post enc Tryd.prog Tryd.f7 false true false false) := by
  obtain ⟨places, hx⟩ := reads os enc
  refine returnsInHanded_of_row (C := Tryd.checked) (s := OpenSpec.ofChange Rows.fnPathOfSpec) own started (by kernel_rfl) Tryd.func7
    (witness_row_at (enc := enc) (C := Tryd.checked) false (World.laidAll Tryd.prog os Rows.fnPathOfRow.laid) #[.slice none 0 0] (World.laidAll_os _ _ _) (by kernel_rfl) (by kernel_rfl) (by kernel_rfl)
      (OpenSpec.preRow_of_cond 8 hx (by kernel_rfl) (fun k hk => by cases hk) (by kernel_rfl) (laid_met os))) ?_
  intro W base args ds gs before hval0 hW _ _ _ hL hsh _
  have hval : ∀ (j : Nat) t v, Tryd.f7.params[j]? = some t → args[j]? = some v → Value.okWide Tryd.prog W .any base t v := hval0
  have hW' := hW
  obtain ⟨p, q, hA, hV, rfl, hfz, hnd⟩ := hW
  obtain ⟨rfl, rfl⟩ := trodVars_none hV
  have hA0 : DataW.TrodAll enc Tryd.prog W 0 (fun _ => true) true Tryd.f7.params.toList args.toList ds p := hA
  rw [Tryd.params7] at hA0 hval
  obtain ⟨v0, vs0, d0, ds0, p0, q0, hargs, rfl, rfl, h0, r0⟩ := trodAll_cons hA0
  obtain ⟨rfl, rfl, rfl⟩ := trodAll_nil r0
  obtain rfl : args = #[v0] := by cases args; simp_all
  obtain ⟨cA, cc, c, rfl, chc, chm, cr, cb⟩ := open_code (hval 0 24 v0 rfl rfl) h0
  refine (walk W cA cc c cr cb chc chm (maxAt_of hsh)).mono fun e W' ⟨he, bel⟩ => ?_
  subst he
  exact ⟨_, rfl, law_post (s := Rows.fnPathOfSpec) rfl (by kernel_rfl) (params_ok (by kernel_rfl)) hW' rfl rfl rfl bel⟩

theorem said : Rows.FnPathOfSaid :=
  OpenClaim.holds_of_cond 7 Tryd.f7 rfl rfl rfl rfl rfl rfl rfl ⟨rfl, rfl, rfl, rfl, rfl⟩ rfl rfl rfl rfl rfl (by kernel_rfl) Tryd.func7 (by kernel_rfl)
    (of_decide_eq_true (by kernel_rfl)) (by unfold Func.isWrapper; first | (rw [if_pos (by decide +kernel)]; kernel_rfl) | (rw [if_neg (by decide +kernel)]; exact ⟨rfl, rfl⟩))
    (fun os started H enc _ F => by rw [OpenClaim.pre_eq_preRow]; exact lifted os started H enc F)

theorem plain (f : FuncId) (fn : Func) (hf : Tryd.pinned.checked.prog.funcNamed "loop.example/poolfiles/laws.FnPathOf" = some f) (hfn : Tryd.pinned.checked.prog.funcs[f]? = some fn) :
    false = Tryd.pinned.checked.prog.looks [] ∧ ∀ (j : Nat) t, fn.params[j]? = some t → Tryd.pinned.checked.prog.wantsStandIn t = false := by
  obtain rfl : f = 7 := Option.some.inj ((show Tryd.prog.funcNamed "loop.example/poolfiles/laws.FnPathOf" = some 7 by kernel_rfl).symm.trans hf) |>.symm
  obtain rfl : fn = Tryd.f7 := (Option.some.inj (Tryd.func7.symm.trans hfn)).symm
  refine ⟨by kernel_rfl, fun j t ht => ?_⟩
  have hall : (Tryd.f7.params.toList.all fun t => !(Tryd.prog.wantsStandIn t)) = true := by kernel_rfl
  have := List.all_eq_true.1 hall t (Array.mem_toList_iff.2 (Array.mem_of_getElem? ht))
  show Tryd.prog.wantsStandIn t = false
  simpa using this

theorem proved : Rows.FnPathOfCardSaid :=
  Claim7.holds_tied_plain_at .later [] _ _ _ _ said (fun _ h => by cases h) (by kernel_rfl) (fun _ h => by cases h) fnPathOf_row_tie rfl ⟨rfl, rfl⟩ (by kernel_rfl) rfl plain (by kernel_rfl)

end Go.Proofs.YtanccfiiemlmeaaDoor.lawFnPathOf
