/- FnPathUnder returns true for every code. The package-level variables that its row lists are tied; no condition of ours. -/
import Derived.Test.YtanccfiiemlmeaaDoorLawCard
import Derived.Test.YtanccfiiemlmeaaDoorPathImpl3
import Derived.Test.YtanccfiiemlmeaaDoorDrawPath
namespace Go.Proofs.YtanccfiiemlmeaaDoor.lawFnPathUnder
open Go.ChangeShapes Go.WideShapes Go.ChangeAt Go.RowKit
set_option linter.unusedVariables false
set_option linter.unusedSimpArgs false

theorem maxAt_of {W : World} (h : W.ShapedOpen Tryd.prog) : MaxAt W := Tryd.laysM146.s1_3 W h
theorem full {b : ByteArray} (h : b ≠ ByteArray.empty) : b.toList.isEmpty = false := by
  cases he : b.toList
  · exact absurd (ofL_ext (by rw [← Lib.toList_data, he]; rfl)) h
  · rfl

set_option maxHeartbeats 4000000 in
theorem walk (w : World) (A : Option Addr) (cap : Nat) (zs : List Int) (h : RdT (encI .u8) 1 w A zs) (hb : ∀ z ∈ zs, 0 ≤ z ∧ z ≤ 255) (hc : zs.length ≤ cap) (hm : cap ≤ 9223372036854775807) (hM : MaxAt w) :
    Calls Tryd.prog 16 #[.slice A zs.length cap] w fun e w' => e = .returned (.bool true) ∧ Below w.heap.size w w' := by
  have HD := Lib.hid (drawPathUnder_any w A cap zs h hb hc hm)
  have HM := Lib.hid hM
  clear h hb hM
  generalize zs.length = n at HD hc ⊢
  by_cases hbig : 1048576 < n
  · clear HD
    go_enter Tryd.func16, Tryd.ntmps16
    go_wp2
    go_ret
    exact ⟨rfl, Below.refl _ _⟩

  go_enter Tryd.func16, Tryd.ntmps16
  go_wp2_with fail
  refine Calls.mono HD.out ?_
  rintro e w1 ⟨s, t, rfl, hs, ht, hB⟩
  have HB1 := Lib.hid hB
  clear hB HD
  have HI := Lib.hid (fun w hM => pathUnder_any w s t hM (by omega) (by omega))
  have HS := Lib.hid (fun w => specPathUnder_any w s t (by omega) (by omega))
  have HO1 := Lib.hid (fun w hM => pathOk_any w s hM (by omega))
  have HO2 := Lib.hid (fun w hM => pathOk_any w t hM (by omega))
  cases hp : pathB s
  · rw [hp] at HO1
    generalize underB s t = u at *
    cases u
    all_goals
      go_wp2_with fail
      refine Calls.mono (HI.out w1 (HM.out.below HB1.out)) ?_
      rintro e w2 ⟨rfl, hB⟩
      have HB2 := Lib.hid (below_below HB1.out hB)
      clear hB
      go_wp2_with fail
      refine Calls.mono (HS.out w2) ?_
      rintro e w3 ⟨rfl, hB⟩
      have HB3 := Lib.hid (below_below HB2.out hB)
      clear hB
      go_wp2_with fail
      refine Calls.mono (HO1.out w3 (HM.out.below HB3.out)) ?_
      rintro e w4 ⟨rfl, hB⟩
      have HB4 := Lib.hid (below_below HB3.out hB)
      clear hB
      go_wp2_with fail
      go_ret
      exact ⟨rfl, HB4.out⟩
  cases hq : pathB t
  · rw [hp] at HO1
    rw [hq] at HO2
    generalize underB s t = u at *
    cases u
    all_goals
      go_wp2_with fail
      refine Calls.mono (HI.out w1 (HM.out.below HB1.out)) ?_
      rintro e w2 ⟨rfl, hB⟩
      have HB2 := Lib.hid (below_below HB1.out hB)
      clear hB
      go_wp2_with fail
      refine Calls.mono (HS.out w2) ?_
      rintro e w3 ⟨rfl, hB⟩
      have HB3 := Lib.hid (below_below HB2.out hB)
      clear hB
      go_wp2_with fail
      refine Calls.mono (HO1.out w3 (HM.out.below HB3.out)) ?_
      rintro e w4 ⟨rfl, hB⟩
      have HB4 := Lib.hid (below_below HB3.out hB)
      clear hB
      go_wp2_with fail
      refine Calls.mono (HO2.out w4 (HM.out.below HB4.out)) ?_
      rintro e w5 ⟨rfl, hB⟩
      have HB5 := Lib.hid (below_below HB4.out hB)
      clear hB
      go_wp2_with fail
      go_ret
      exact ⟨rfl, HB5.out⟩
  obtain ⟨j1, j2, j3, j4⟩ := under_law hp hq
  have hf4 : (folderT t).size ≤ 1048576 := by
    rcases baseT_cases t with ⟨_, _, hf⟩ | ⟨xs, n, _, _, _, hf, _, hok, _⟩
    · rw [hf]; decide
    · rw [hf]; have := pathT_size hok; omega
  have HF := Lib.hid (fun w hM => pathFolder_any w t hM (by omega))
  have H1 := Lib.hid (fun w hM => pathUnder_any w s s hM (by omega) (by omega))
  have H2 := Lib.hid (fun w hM => pathUnder_any w s ⟨#[47]⟩ hM (by omega) (by decide))
  have H3 := Lib.hid (fun w hM => pathUnder_any w t s hM (by omega) (by omega))
  have H4 := Lib.hid (fun w hM => pathUnder_any w s (folderT t) hM (by omega) hf4)
  rw [hp] at HO1
  rw [hq] at HO2
  rw [j1] at H1
  rw [j2] at H2
  cases hu : underB s t
  · rw [hu] at HI HS
    generalize folderT t = f at *
    clear j3 j4 H3 H4
    go_wp2_with fail
    refine Calls.mono (HI.out w1 (HM.out.below HB1.out)) ?_
    rintro e w2 ⟨rfl, hB⟩
    have HB2 := Lib.hid (below_below HB1.out hB)
    clear hB
    go_wp2_with fail
    refine Calls.mono (HS.out w2) ?_
    rintro e w3 ⟨rfl, hB⟩
    have HB3 := Lib.hid (below_below HB2.out hB)
    clear hB
    go_wp2_with fail
    refine Calls.mono (HO1.out w3 (HM.out.below HB3.out)) ?_
    rintro e w4 ⟨rfl, hB⟩
    have HB4 := Lib.hid (below_below HB3.out hB)
    clear hB
    go_wp2_with fail
    refine Calls.mono (HO2.out w4 (HM.out.below HB4.out)) ?_
    rintro e w5 ⟨rfl, hB⟩
    have HB5 := Lib.hid (below_below HB4.out hB)
    clear hB
    go_wp2_with fail
    refine Calls.mono (HF.out w5 (HM.out.below HB5.out)) ?_
    rintro e w6 ⟨rfl, hB⟩
    have HB6 := Lib.hid (below_below HB5.out hB)
    clear hB
    go_wp2_with fail
    refine Calls.mono (H1.out w6 (HM.out.below HB6.out)) ?_
    rintro e w7 ⟨rfl, hB⟩
    have HB7 := Lib.hid (below_below HB6.out hB)
    clear hB
    go_wp2_with fail
    refine Calls.mono (H2.out w7 (HM.out.below HB7.out)) ?_
    rintro e w8 ⟨rfl, hB⟩
    have HB8 := Lib.hid (below_below HB7.out hB)
    clear hB
    go_wp2_with fail
    go_ret
    exact ⟨rfl, HB8.out⟩
  rw [hu] at HI HS
  have k3 := j3 hu
  have k4 := j4 hu
  clear j3 j4
  have hst : underB t s = true → (s.toList == t.toList) = true := fun h => by rw [k3 h]; simp
  have k3 := Lib.hid hst
  clear hst
  by_cases hup : folderT t = ByteArray.empty
  · rw [hup] at HF
    change Hid (∀ w : World, MaxAt w → Calls Tryd.prog 26 #[.string t] w fun e w' => e = .returned (.string ⟨#[]⟩) ∧ Below w.heap.size w w') at HF
    cases hts : underB t s
    · rw [hts] at H3
      go_wp2_with fail
      refine Calls.mono (HI.out w1 (HM.out.below HB1.out)) ?_
      rintro e w2 ⟨rfl, hB⟩
      have HB2 := Lib.hid (below_below HB1.out hB)
      clear hB
      go_wp2_with fail
      refine Calls.mono (HS.out w2) ?_
      rintro e w3 ⟨rfl, hB⟩
      have HB3 := Lib.hid (below_below HB2.out hB)
      clear hB
      go_wp2_with fail
      refine Calls.mono (HO1.out w3 (HM.out.below HB3.out)) ?_
      rintro e w4 ⟨rfl, hB⟩
      have HB4 := Lib.hid (below_below HB3.out hB)
      clear hB
      go_wp2_with fail
      refine Calls.mono (HO2.out w4 (HM.out.below HB4.out)) ?_
      rintro e w5 ⟨rfl, hB⟩
      have HB5 := Lib.hid (below_below HB4.out hB)
      clear hB
      go_wp2_with fail
      refine Calls.mono (HF.out w5 (HM.out.below HB5.out)) ?_
      rintro e w6 ⟨rfl, hB⟩
      have HB6 := Lib.hid (below_below HB5.out hB)
      clear hB
      go_wp2_with fail
      refine Calls.mono (H1.out w6 (HM.out.below HB6.out)) ?_
      rintro e w7 ⟨rfl, hB⟩
      have HB7 := Lib.hid (below_below HB6.out hB)
      clear hB
      go_wp2_with fail
      refine Calls.mono (H2.out w7 (HM.out.below HB7.out)) ?_
      rintro e w8 ⟨rfl, hB⟩
      have HB8 := Lib.hid (below_below HB7.out hB)
      clear hB
      go_wp2_with fail
      refine Calls.mono (H3.out w8 (HM.out.below HB8.out)) ?_
      rintro e w9 ⟨rfl, hB⟩
      have HB9 := Lib.hid (below_below HB8.out hB)
      clear hB
      go_wp2_with fail
      go_ret
      exact ⟨rfl, HB9.out⟩
    · rw [hts] at H3
      have e5 := k3.out hts
      go_wp2_with fail
      refine Calls.mono (HI.out w1 (HM.out.below HB1.out)) ?_
      rintro e w2 ⟨rfl, hB⟩
      have HB2 := Lib.hid (below_below HB1.out hB)
      clear hB
      go_wp2_with fail
      refine Calls.mono (HS.out w2) ?_
      rintro e w3 ⟨rfl, hB⟩
      have HB3 := Lib.hid (below_below HB2.out hB)
      clear hB
      go_wp2_with fail
      refine Calls.mono (HO1.out w3 (HM.out.below HB3.out)) ?_
      rintro e w4 ⟨rfl, hB⟩
      have HB4 := Lib.hid (below_below HB3.out hB)
      clear hB
      go_wp2_with fail
      refine Calls.mono (HO2.out w4 (HM.out.below HB4.out)) ?_
      rintro e w5 ⟨rfl, hB⟩
      have HB5 := Lib.hid (below_below HB4.out hB)
      clear hB
      go_wp2_with fail
      refine Calls.mono (HF.out w5 (HM.out.below HB5.out)) ?_
      rintro e w6 ⟨rfl, hB⟩
      have HB6 := Lib.hid (below_below HB5.out hB)
      clear hB
      go_wp2_with fail
      refine Calls.mono (H1.out w6 (HM.out.below HB6.out)) ?_
      rintro e w7 ⟨rfl, hB⟩
      have HB7 := Lib.hid (below_below HB6.out hB)
      clear hB
      go_wp2_with fail
      refine Calls.mono (H2.out w7 (HM.out.below HB7.out)) ?_
      rintro e w8 ⟨rfl, hB⟩
      have HB8 := Lib.hid (below_below HB7.out hB)
      clear hB
      go_wp2_with fail
      refine Calls.mono (H3.out w8 (HM.out.below HB8.out)) ?_
      rintro e w9 ⟨rfl, hB⟩
      have HB9 := Lib.hid (below_below HB8.out hB)
      clear hB
      go_wp2_with fail
      go_ret
      exact ⟨rfl, HB9.out⟩
  · have k5 := k4 hup
    have e1 := full hup
    rw [k5] at H4
    clear k4 k5 hup
    generalize folderT t = f at *
    cases hts : underB t s
    · rw [hts] at H3
      go_wp2_with fail
      refine Calls.mono (HI.out w1 (HM.out.below HB1.out)) ?_
      rintro e w2 ⟨rfl, hB⟩
      have HB2 := Lib.hid (below_below HB1.out hB)
      clear hB
      go_wp2_with fail
      refine Calls.mono (HS.out w2) ?_
      rintro e w3 ⟨rfl, hB⟩
      have HB3 := Lib.hid (below_below HB2.out hB)
      clear hB
      go_wp2_with fail
      refine Calls.mono (HO1.out w3 (HM.out.below HB3.out)) ?_
      rintro e w4 ⟨rfl, hB⟩
      have HB4 := Lib.hid (below_below HB3.out hB)
      clear hB
      go_wp2_with fail
      refine Calls.mono (HO2.out w4 (HM.out.below HB4.out)) ?_
      rintro e w5 ⟨rfl, hB⟩
      have HB5 := Lib.hid (below_below HB4.out hB)
      clear hB
      go_wp2_with fail
      refine Calls.mono (HF.out w5 (HM.out.below HB5.out)) ?_
      rintro e w6 ⟨rfl, hB⟩
      have HB6 := Lib.hid (below_below HB5.out hB)
      clear hB
      go_wp2_with fail
      refine Calls.mono (H1.out w6 (HM.out.below HB6.out)) ?_
      rintro e w7 ⟨rfl, hB⟩
      have HB7 := Lib.hid (below_below HB6.out hB)
      clear hB
      go_wp2_with fail
      refine Calls.mono (H2.out w7 (HM.out.below HB7.out)) ?_
      rintro e w8 ⟨rfl, hB⟩
      have HB8 := Lib.hid (below_below HB7.out hB)
      clear hB
      go_wp2_with fail
      refine Calls.mono (H3.out w8 (HM.out.below HB8.out)) ?_
      rintro e w9 ⟨rfl, hB⟩
      have HB9 := Lib.hid (below_below HB8.out hB)
      clear hB
      go_wp2_with fail
      refine Calls.mono (H4.out w9 (HM.out.below HB9.out)) ?_
      rintro e w10 ⟨rfl, hB⟩
      have HB10 := Lib.hid (below_below HB9.out hB)
      clear hB
      go_wp2_with fail
      go_ret
      exact ⟨rfl, HB10.out⟩
    · rw [hts] at H3
      have e5 := k3.out hts
      go_wp2_with fail
      refine Calls.mono (HI.out w1 (HM.out.below HB1.out)) ?_
      rintro e w2 ⟨rfl, hB⟩
      have HB2 := Lib.hid (below_below HB1.out hB)
      clear hB
      go_wp2_with fail
      refine Calls.mono (HS.out w2) ?_
      rintro e w3 ⟨rfl, hB⟩
      have HB3 := Lib.hid (below_below HB2.out hB)
      clear hB
      go_wp2_with fail
      refine Calls.mono (HO1.out w3 (HM.out.below HB3.out)) ?_
      rintro e w4 ⟨rfl, hB⟩
      have HB4 := Lib.hid (below_below HB3.out hB)
      clear hB
      go_wp2_with fail
      refine Calls.mono (HO2.out w4 (HM.out.below HB4.out)) ?_
      rintro e w5 ⟨rfl, hB⟩
      have HB5 := Lib.hid (below_below HB4.out hB)
      clear hB
      go_wp2_with fail
      refine Calls.mono (HF.out w5 (HM.out.below HB5.out)) ?_
      rintro e w6 ⟨rfl, hB⟩
      have HB6 := Lib.hid (below_below HB5.out hB)
      clear hB
      go_wp2_with fail
      refine Calls.mono (H1.out w6 (HM.out.below HB6.out)) ?_
      rintro e w7 ⟨rfl, hB⟩
      have HB7 := Lib.hid (below_below HB6.out hB)
      clear hB
      go_wp2_with fail
      refine Calls.mono (H2.out w7 (HM.out.below HB7.out)) ?_
      rintro e w8 ⟨rfl, hB⟩
      have HB8 := Lib.hid (below_below HB7.out hB)
      clear hB
      go_wp2_with fail
      refine Calls.mono (H3.out w8 (HM.out.below HB8.out)) ?_
      rintro e w9 ⟨rfl, hB⟩
      have HB9 := Lib.hid (below_below HB8.out hB)
      clear hB
      go_wp2_with fail
      refine Calls.mono (H4.out w9 (HM.out.below HB9.out)) ?_
      rintro e w10 ⟨rfl, hB⟩
      have HB10 := Lib.hid (below_below HB9.out hB)
      clear hB
      go_wp2_with fail
      go_ret
      exact ⟨rfl, HB10.out⟩

theorem laid_met (os : Os) : laidMet Tryd.prog Rows.fnPathUnderRow.laid ((World.laidAll Tryd.prog os Rows.fnPathUnderRow.laid).forCall (fun _ _ => 0) ⟨#[], #[.slice none 0 0], []⟩).memory := laidMet_laidAll _ (by kernel_rfl) (by kernel_rfl)
theorem reads (os : Os) {H : Type} (enc : TypeId × Value → H) : ∃ places, DataW.whole enc Tryd.prog ((World.laidAll Tryd.prog os Rows.fnPathUnderRow.laid).forCall (fun _ _ => 0) ⟨#[], #[.slice none 0 0], []⟩).memory Tryd.f16.params.toList Rows.fnPathUnderSpec.vars false (#[.slice none 0 0] : Array Value).toList 8 = some ([.nil], [], places) :=
  ⟨[], by kernel_rfl⟩

set_option maxRecDepth 100000 in
theorem lifted (os : Os) (started : os.Started) (H : Type) (enc : TypeId × Value → H) (F : Stop.Interp) :
    ReturnsInHanded {} Tryd.checked os 16 .any ((OpenSpec.ofChange Rows.fnPathUnderSpec).preRow enc Tryd.prog Tryd.f16 Rows.fnPathUnderRow.domain false Rows.fnPathUnderRow.laid) (((OpenSpec.ofChange Rows.fnPathUnderSpec).at F).post enc Tryd.prog Tryd.f16 false true false false) := by
  obtain ⟨places, hx⟩ := reads os enc
  refine returnsInHanded_of_row (C := Tryd.checked) (s := OpenSpec.ofChange Rows.fnPathUnderSpec) own started (by kernel_rfl) Tryd.func16
    (witness_row_at (enc := enc) (C := Tryd.checked) false (World.laidAll Tryd.prog os Rows.fnPathUnderRow.laid) #[.slice none 0 0] (World.laidAll_os _ _ _) (by kernel_rfl) (by kernel_rfl) (by kernel_rfl)
      (OpenSpec.preRow_of_cond 8 hx (by kernel_rfl) (fun k hk => by cases hk) (by kernel_rfl) (laid_met os))) ?_
  intro W base args ds gs before hval0 hW _ _ _ hL hsh _
  have hval : ∀ (j : Nat) t v, Tryd.f16.params[j]? = some t → args[j]? = some v → Value.okWide Tryd.prog W .any base t v := hval0
  have hW' := hW
  obtain ⟨p, q, hA, hV, rfl, hfz, hnd⟩ := hW
  obtain ⟨rfl, rfl⟩ := trodVars_none hV
  have hA0 : DataW.TrodAll enc Tryd.prog W 0 (fun _ => true) true Tryd.f16.params.toList args.toList ds p := hA
  rw [Tryd.params16] at hA0 hval
  obtain ⟨v0, vs0, d0, ds0, p0, q0, hargs, rfl, rfl, h0, r0⟩ := trodAll_cons hA0
  obtain ⟨rfl, rfl, rfl⟩ := trodAll_nil r0
  obtain rfl : args = #[v0] := by cases args; simp_all
  obtain ⟨cA, cc, c, rfl, chc, chm, cr, cb⟩ := open_code (hval 0 24 v0 rfl rfl) h0
  refine (walk W cA cc c cr cb chc chm (maxAt_of hsh)).mono fun e W' ⟨he, bel⟩ => ?_
  subst he
  exact ⟨_, rfl, law_post (s := Rows.fnPathUnderSpec) rfl (by kernel_rfl) (params_ok (by kernel_rfl)) hW' rfl rfl rfl bel⟩

theorem said : Rows.FnPathUnderSaid :=
  OpenClaim.holds_of_cond 16 Tryd.f16 rfl rfl rfl rfl rfl rfl rfl ⟨rfl, rfl, rfl, rfl, rfl⟩ rfl rfl rfl rfl rfl (by kernel_rfl) Tryd.func16 (by kernel_rfl)
    (of_decide_eq_true (by kernel_rfl)) (by unfold Func.isWrapper; first | (rw [if_pos (by decide +kernel)]; kernel_rfl) | (rw [if_neg (by decide +kernel)]; exact ⟨rfl, rfl⟩))
    (fun os started H enc _ F => by rw [OpenClaim.pre_eq_preRow]; exact lifted os started H enc F)

theorem plain (f : FuncId) (fn : Func) (hf : Tryd.pinned.checked.prog.funcNamed "loop.example/poolfiles/laws.FnPathUnder" = some f) (hfn : Tryd.pinned.checked.prog.funcs[f]? = some fn) :
    false = Tryd.pinned.checked.prog.looks [] ∧ ∀ (j : Nat) t, fn.params[j]? = some t → Tryd.pinned.checked.prog.wantsStandIn t = false := by
  obtain rfl : f = 16 := Option.some.inj ((show Tryd.prog.funcNamed "loop.example/poolfiles/laws.FnPathUnder" = some 16 by kernel_rfl).symm.trans hf) |>.symm
  obtain rfl : fn = Tryd.f16 := (Option.some.inj (Tryd.func16.symm.trans hfn)).symm
  refine ⟨by kernel_rfl, fun j t ht => ?_⟩
  have hall : (Tryd.f16.params.toList.all fun t => !(Tryd.prog.wantsStandIn t)) = true := by kernel_rfl
  have := List.all_eq_true.1 hall t (Array.mem_toList_iff.2 (Array.mem_of_getElem? ht))
  show Tryd.prog.wantsStandIn t = false
  simpa using this

theorem proved : Rows.FnPathUnderCardSaid :=
  Claim7.holds_tied_plain_at .later [] _ _ _ _ said (fun _ h => by cases h) (by kernel_rfl) (fun _ h => by cases h) fnPathUnder_row_tie rfl ⟨rfl, rfl⟩ (by kernel_rfl) rfl plain (by kernel_rfl)

end Go.Proofs.YtanccfiiemlmeaaDoor.lawFnPathUnder
