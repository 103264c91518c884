/- FnPathFolder returns true for every code. The package-level variables that its row lists are tied; no condition of ours. -/
import Derived.Test.YtanccfiiemlmeaaDoorLawCard
import Derived.Test.YtanccfiiemlmeaaDoorPathImpl3
import Derived.Test.YtanccfiiemlmeaaDoorDrawPath
namespace Go.Proofs.YtanccfiiemlmeaaDoor.lawFnPathFolder
open Go.ChangeShapes Go.WideShapes Go.ChangeAt Go.RowKit
set_option linter.unusedVariables false
set_option linter.unusedSimpArgs false

theorem maxAt_of {W : World} (h : W.ShapedOpen Tryd.prog) : MaxAt W := Tryd.laysM146.s1_3 W h
theorem full {b : ByteArray} (h : b ≠ ByteArray.empty) : b.toList.isEmpty = false := by
  cases he : b.toList
  · exact absurd (ofL_ext (by rw [← Lib.toList_data, he]; rfl)) h
  · rfl

set_option maxHeartbeats 4000000 in
theorem walk (w : World) (A : Option Addr) (cap : Nat) (zs : List Int) (h : RdT (encI .u8) 1 w A zs) (hb : ∀ z ∈ zs, 0 ≤ z ∧ z ≤ 255) (hc : zs.length ≤ cap) (hm : cap ≤ 9223372036854775807) (hM : MaxAt w) :
    Calls Tryd.prog 15 #[.slice A zs.length cap] w fun e w' => e = .returned (.bool true) ∧ Below w.heap.size w w' := by
  have HD := Lib.hid (drawPathFolder_any w A cap zs h hb hc hm)
  have HM := Lib.hid hM
  clear h hb hM
  generalize zs.length = n at HD hc ⊢
  by_cases hbig : 1048576 < n
  · clear HD
    go_enter Tryd.func15, Tryd.ntmps15
    go_wp2
    go_ret
    exact ⟨rfl, Below.refl _ _⟩

  go_enter Tryd.func15, Tryd.ntmps15
  go_wp2_with fail
  refine Calls.mono HD.out ?_
  rintro e w1 ⟨s, rfl, hs, hB⟩
  have HB1 := Lib.hid hB
  clear hB HD
  have HI := Lib.hid (fun w hM => pathFolder_any w s hM (by omega))
  have HS := Lib.hid (fun w => specPathFolder_any w s (by omega))
  by_cases hx : folderT s = ByteArray.empty
  · rw [hx] at HI HS
    change Hid (∀ w : World, MaxAt w → Calls Tryd.prog 26 #[.string s] w fun e w' => e = .returned (.string ⟨#[]⟩) ∧ Below w.heap.size w w') at HI
    change Hid (∀ w : World, Calls Tryd.prog 25 #[.string s] w fun e w' => e = .returned (.string ⟨#[]⟩) ∧ Below w.heap.size w w') at HS
    go_wp2_with fail
    refine Calls.mono (HI.out w1 (HM.out.below HB1.out)) ?_
    rintro e w2 ⟨rfl, hB⟩
    have HB2 := Lib.hid (below_below HB1.out hB)
    clear hB
    go_wp2_with fail
    refine Calls.mono (HS.out w2) ?_
    rintro e w3 ⟨rfl, hB⟩
    have HB3 := Lib.hid (below_below HB2.out hB)
    clear hB
    go_wp2_with fail
    go_ret
    exact ⟨rfl, HB3.out⟩
  · obtain ⟨j1, j2, j3, j4, j5⟩ := folder_law hx
    have e1 := full hx
    have hf4 : (folderT s).size ≤ 1048576 := by have := pathB_size j2; omega
    have HN1 := Lib.hid (fun w hM => pathNames_any w s hM (by omega))
    have HN2 := Lib.hid (fun w hM => pathNames_any w (folderT s) hM hf4)
    have HU1 := Lib.hid (fun w hM => pathUnder_any w s (folderT s) hM (by omega) hf4)
    have HU2 := Lib.hid (fun w hM => pathUnder_any w (folderT s) s hM hf4 (by omega))
    have l1 : (namesT s).length ≤ 4 := (all_nameB (namesT_ok j1)).1
    rw [j1] at HN1
    rw [j2] at HN2
    rw [j4] at HU1
    rw [j5] at HU2
    clear j1 j2 j4 j5 hx
    generalize folderT s = f at *
    generalize namesT f = ys at *
    generalize namesT s = xs at *
    have e2 : ((xs.length : Int) == (ys.length : Int) + 1) = true := by rw [j3]; simp
    go_wp2_with fail
    refine Calls.mono (HI.out w1 (HM.out.below HB1.out)) ?_
    rintro e w2 ⟨rfl, hB⟩
    have HB2 := Lib.hid (below_below HB1.out hB)
    clear hB
    go_wp2_with fail
    refine Calls.mono (HS.out w2) ?_
    rintro e w3 ⟨rfl, hB⟩
    have HB3 := Lib.hid (below_below HB2.out hB)
    clear hB
    go_wp2_with fail
    refine Calls.mono (HN1.out w3 (HM.out.below HB3.out)) ?_
    rintro e w4 ⟨v1, rfl, hO1, hB⟩
    have HB4 := Lib.hid (below_below HB3.out hB)
    clear hB
    obtain ⟨A1, c1, rfl, hc1, hcm1, _, _⟩ := hO1.form
    clear hO1
    go_wp2_with fail
    refine Calls.mono (HN2.out w4 (HM.out.below HB4.out)) ?_
    rintro e w5 ⟨v2, rfl, hO2, hB⟩
    have HB5 := Lib.hid (below_below HB4.out hB)
    clear hB
    obtain ⟨A2, c2, rfl, hc2, hcm2, _, _⟩ := hO2.form
    clear hO2
    go_wp2_with fail
    refine Calls.mono (HU1.out w5 (HM.out.below HB5.out)) ?_
    rintro e w6 ⟨rfl, hB⟩
    have HB6 := Lib.hid (below_below HB5.out hB)
    clear hB
    go_wp2_with fail
    refine Calls.mono (HU2.out w6 (HM.out.below HB6.out)) ?_
    rintro e w7 ⟨rfl, hB⟩
    have HB7 := Lib.hid (below_below HB6.out hB)
    clear hB
    go_wp2_with fail
    go_ret
    exact ⟨rfl, HB7.out⟩

theorem laid_met (os : Os) : laidMet Tryd.prog Rows.fnPathFolderRow.laid ((World.laidAll Tryd.prog os Rows.fnPathFolderRow.laid).forCall (fun _ _ => 0) ⟨#[], #[.slice none 0 0], []⟩).memory := laidMet_laidAll _ (by kernel_rfl) (by kernel_rfl)
theorem reads (os : Os) {H : Type} (enc : TypeId × Value → H) : ∃ places, DataW.whole enc Tryd.prog ((World.laidAll Tryd.prog os Rows.fnPathFolderRow.laid).forCall (fun _ _ => 0) ⟨#[], #[.slice none 0 0], []⟩).memory Tryd.f15.params.toList Rows.fnPathFolderSpec.vars false (#[.slice none 0 0] : Array Value).toList 8 = some ([.nil], [], places) :=
  ⟨[], by kernel_rfl⟩

set_option maxRecDepth 100000 in
theorem lifted (os : Os) (started : os.Started) (H : Type) (enc : TypeId × Value → H) (F : Stop.Interp) :
    ReturnsInHanded {} Tryd.checked os 15 .any ((OpenSpec.ofChange Rows.fnPathFolderSpec).preRow enc Tryd.prog Tryd.f15 Rows.fnPathFolderRow.domain false Rows.fnPathFolderRow.laid) (((OpenSpec.ofChange Rows.fnPathFolderSpec).at F).post enc Tryd.prog Tryd.f15 false true false false) := by
  obtain ⟨places, hx⟩ := reads os enc
  refine returnsInHanded_of_row (C := Tryd.checked) (s := OpenSpec.ofChange Rows.fnPathFolderSpec) own started (by kernel_rfl) Tryd.func15
    (witness_row_at (enc := enc) (C := Tryd.checked) false (World.laidAll Tryd.prog os Rows.fnPathFolderRow.laid) #[.slice none 0 0] (World.laidAll_os _ _ _) (by kernel_rfl) (by kernel_rfl) (by kernel_rfl)
      (OpenSpec.preRow_of_cond 8 hx (by kernel_rfl) (fun k hk => by cases hk) (by kernel_rfl) (laid_met os))) ?_
  intro W base args ds gs before hval0 hW _ _ _ hL hsh _
  have hval : ∀ (j : Nat) t v, Tryd.f15.params[j]? = some t → args[j]? = some v → Value.okWide Tryd.prog W .any base t v := hval0
  have hW' := hW
  obtain ⟨p, q, hA, hV, rfl, hfz, hnd⟩ := hW
  obtain ⟨rfl, rfl⟩ := trodVars_none hV
  have hA0 : DataW.TrodAll enc Tryd.prog W 0 (fun _ => true) true Tryd.f15.params.toList args.toList ds p := hA
  rw [Tryd.params15] at hA0 hval
  obtain ⟨v0, vs0, d0, ds0, p0, q0, hargs, rfl, rfl, h0, r0⟩ := trodAll_cons hA0
  obtain ⟨rfl, rfl, rfl⟩ := trodAll_nil r0
  obtain rfl : args = #[v0] := by cases args; simp_all
  obtain ⟨cA, cc, c, rfl, chc, chm, cr, cb⟩ := open_code (hval 0 24 v0 rfl rfl) h0
  refine (walk W cA cc c cr cb chc chm (maxAt_of hsh)).mono fun e W' ⟨he, bel⟩ => ?_
  subst he
  exact ⟨_, rfl, law_post (s := Rows.fnPathFolderSpec) rfl (by kernel_rfl) (params_ok (by kernel_rfl)) hW' rfl rfl rfl bel⟩

theorem said : Rows.FnPathFolderSaid :=
  OpenClaim.holds_of_cond 15 Tryd.f15 rfl rfl rfl rfl rfl rfl rfl ⟨rfl, rfl, rfl, rfl, rfl⟩ rfl rfl rfl rfl rfl (by kernel_rfl) Tryd.func15 (by kernel_rfl)
    (of_decide_eq_true (by kernel_rfl)) (by unfold Func.isWrapper; first | (rw [if_pos (by decide +kernel)]; kernel_rfl) | (rw [if_neg (by decide +kernel)]; exact ⟨rfl, rfl⟩))
    (fun os started H enc _ F => by rw [OpenClaim.pre_eq_preRow]; exact lifted os started H enc F)

theorem plain (f : FuncId) (fn : Func) (hf : Tryd.pinned.checked.prog.funcNamed "loop.example/poolfiles/laws.FnPathFolder" = some f) (hfn : Tryd.pinned.checked.prog.funcs[f]? = some fn) :
    false = Tryd.pinned.checked.prog.looks [] ∧ ∀ (j : Nat) t, fn.params[j]? = some t → Tryd.pinned.checked.prog.wantsStandIn t = false := by
  obtain rfl : f = 15 := Option.some.inj ((show Tryd.prog.funcNamed "loop.example/poolfiles/laws.FnPathFolder" = some 15 by kernel_rfl).symm.trans hf) |>.symm
  obtain rfl : fn = Tryd.f15 := (Option.some.inj (Tryd.func15.symm.trans hfn)).symm
  refine ⟨by kernel_rfl, fun j t ht => ?_⟩
  have hall : (Tryd.f15.params.toList.all fun t => !(Tryd.prog.wantsStandIn t)) = true := by kernel_rfl
  have := List.all_eq_true.1 hall t (Array.mem_toList_iff.2 (Array.mem_of_getElem? ht))
  show Tryd.prog.wantsStandIn t = false
  simpa using this

theorem proved : Rows.FnPathFolderCardSaid :=
  Claim7.holds_tied_plain_at .later [] _ _ _ _ said (fun _ h => by cases h) (by kernel_rfl) (fun _ h => by cases h) fnPathFolder_row_tie rfl ⟨rfl, rfl⟩ (by kernel_rfl) rfl plain (by kernel_rfl)

end Go.Proofs.YtanccfiiemlmeaaDoor.lawFnPathFolder
