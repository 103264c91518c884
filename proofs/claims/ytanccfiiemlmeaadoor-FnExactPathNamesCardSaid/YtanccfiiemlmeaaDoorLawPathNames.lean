/- FnExactPathNames returns true for every text. The package-level variables that its row lists are tied; no condition of ours. -/
import Derived.Test.YtanccfiiemlmeaaDoorLawCard
import Derived.Test.YtanccfiiemlmeaaDoorPathImpl3
import Derived.Test.YtanccfiiemlmeaaDoorMarkStr
namespace Go.Proofs.YtanccfiiemlmeaaDoor.lawExactPathNames
open Go.ChangeShapes Go.WideShapes Go.ChangeAt Go.RowKit
set_option linter.unusedVariables false
set_option linter.unusedSimpArgs false

theorem maxAt_of {W : World} (h : W.ShapedOpen Tryd.prog) : MaxAt W := Tryd.laysM146.s1_3 W h

theorem names_len (s : ByteArray) : (namesT s).length ≤ 4 := by
  cases h : pathB s
  · rw [namesT_no h]; simp
  · exact (all_nameB (namesT_ok h)).1

set_option maxHeartbeats 4000000 in
theorem walk (w : World) (s : ByteArray) (hM : MaxAt w) : Calls Tryd.prog 10 #[.string s] w fun e w' => e = .returned (.bool true) ∧ Below w.heap.size w w' := by
  by_cases hbig : 1048576 < s.size
  · go_enter Tryd.func10, Tryd.ntmps10
    go_wp2
    go_ret
    exact ⟨rfl, Below.refl _ _⟩
  have HS := Lib.hid (specPathNames_any w s (by omega))
  have HI := Lib.hid (fun w hM => pathNames_any w s hM (by omega))
  have HM := Lib.hid hM
  have hl := names_len s
  clear hM
  generalize pathB s = B at *
  generalize namesT s = l at *
  have n1 : ¬ (1 + (l.length : Int) < 0) := by omega
  go_enter Tryd.func10, Tryd.ntmps10
  go_wp2_with fail
  refine Calls.mono HS.out ?_
  rintro e w1 ⟨v, rfl, hO, hB⟩
  obtain ⟨A0, c0, rfl, hl0, hc0, _, _⟩ := hO.form
  have O0 := Lib.hid hO
  have HB1 := Lib.hid hB
  clear hO hB
  go_wp2_with fail
  refine Calls.mono (HI.out _ (HM.out.below HB1.out)) ?_
  rintro e w2 ⟨v, rfl, hO, hB⟩
  obtain ⟨A1, c1, rfl, hl1, hc1, _, _⟩ := hO.form
  have OG := Lib.hid hO
  have ap := Lib.hid (apart' O0.out OG.out (Nat.le_refl _))
  have HB2 := Lib.hid (below_below HB1.out hB)
  have P0 := Lib.hid (O0.out.below hB)
  clear hO hB
  cases B
  all_goals
    go_wp2_with fail
    refine Calls.mono (eqStringS_true _ A1 A0 c1 c0 l (own_rd' OG.out).1 (own_rd' P0.out).1 hl1 hl0 hc1) ?_
    rintro e w3 ⟨rfl, hB⟩
    have HB3 := Lib.hid (below_below HB2.out hB)
    have P0 := Lib.hid (P0.out.below hB)
    have PG := Lib.hid (OG.out.below hB)
    clear hB
    go_wp2_with fail
    refine Calls.mono (markStringS_any _ w3 _ 1 l PG.out (by omega) (by omega) (by omega)) ?_
    rintro e w4 ⟨rfl, hMk, hK⟩
    have HB4 := Lib.hid (HB3.out.trans (hK.below HB3.out.size (fun k hk => Nat.le_trans HB1.out.size (own_above' OG.out k hk).1)))
    have P0 := Lib.hid (P0.out.kp hK ap.out.2)
    have PM := Lib.hid hMk
    clear hMk hK PG HB3
    go_wp2_with fail
    refine Calls.mono (heldStringS_any w4 A1 c1 l.length 1 (own_rd' PM.out).1 hl1 (by omega) (by omega) (by omega)) ?_
    rintro e w5 ⟨rfl, hB⟩
    have HB5 := Lib.hid (below_below HB4.out hB)
    have P0 := Lib.hid (P0.out.below hB)
    have PM := Lib.hid (PM.out.below hB)
    clear hB HB4
    go_wp2_with fail
    refine Calls.mono (HI.out _ (HM.out.below HB5.out)) ?_
    rintro e w6 ⟨v, rfl, hO, hB⟩
    obtain ⟨A6, c6, rfl, hl6, hc6, _, hrd6⟩ := hO.form
    have HR6 := Lib.hid hrd6
    have HB6 := Lib.hid (below_below HB5.out hB)
    have P0 := Lib.hid (P0.out.below hB)
    have PM := Lib.hid (PM.out.below hB)
    clear hO hrd6 hB HB5
    go_wp2_with fail
    refine Calls.mono (eqStringS_true _ A6 A0 c6 c0 l HR6.out (own_rd' P0.out).1 hl6 hl0 hc6) ?_
    rintro e w7 ⟨rfl, hB⟩
    have HB7 := Lib.hid (below_below HB6.out hB)
    have PM := Lib.hid (PM.out.below hB)
    clear hB HB6 P0 HR6
    go_wp2_with fail
    refine Calls.mono (heldStringS_any w7 A1 c1 l.length 1 (own_rd' PM.out).1 hl1 (by omega) (by omega) (by omega)) ?_
    rintro e w8 ⟨rfl, hB⟩
    have HB8 := Lib.hid (below_below HB7.out hB)
    clear hB
    go_wp2_with fail
    go_ret
    exact ⟨rfl, HB8.out⟩

theorem laid_met (os : Os) : laidMet Tryd.prog Rows.fnExactPathNamesRow.laid ((World.laidAll Tryd.prog os Rows.fnExactPathNamesRow.laid).forCall (fun _ _ => 0) ⟨#[], #[.string ⟨#[]⟩], []⟩).memory := laidMet_laidAll _ (by kernel_rfl) (by kernel_rfl)
theorem reads (os : Os) {H : Type} (enc : TypeId × Value → H) : ∃ places, DataW.whole enc Tryd.prog ((World.laidAll Tryd.prog os Rows.fnExactPathNamesRow.laid).forCall (fun _ _ => 0) ⟨#[], #[.string ⟨#[]⟩], []⟩).memory Tryd.f10.params.toList Rows.fnExactPathNamesSpec.vars false (#[.string ⟨#[]⟩] : Array Value).toList 8 = some ([.lit (.string [])], [], places) :=
  ⟨[], by kernel_rfl⟩

set_option maxRecDepth 100000 in
theorem lifted (os : Os) (started : os.Started) (H : Type) (enc : TypeId × Value → H) (F : Stop.Interp) :
    ReturnsInHanded {} Tryd.checked os 10 .any ((OpenSpec.ofChange Rows.fnExactPathNamesSpec).preRow enc Tryd.prog Tryd.f10 Rows.fnExactPathNamesRow.domain false Rows.fnExactPathNamesRow.laid) (((OpenSpec.ofChange Rows.fnExactPathNamesSpec).at F).post enc Tryd.prog Tryd.f10 false true false false) := by
  obtain ⟨places, hx⟩ := reads os enc
  refine returnsInHanded_of_row (C := Tryd.checked) (s := OpenSpec.ofChange Rows.fnExactPathNamesSpec) own started (by kernel_rfl) Tryd.func10
    (witness_row_at (enc := enc) (C := Tryd.checked) false (World.laidAll Tryd.prog os Rows.fnExactPathNamesRow.laid) #[.string ⟨#[]⟩] (World.laidAll_os _ _ _) (by kernel_rfl) (by kernel_rfl) (by kernel_rfl)
      (OpenSpec.preRow_of_cond 8 hx (by kernel_rfl) (fun k hk => by cases hk) (by kernel_rfl) (laid_met os))) ?_
  intro W base args ds gs before hval0 hW _ _ _ hL hsh _
  have hval : ∀ (j : Nat) t v, Tryd.f10.params[j]? = some t → args[j]? = some v → Value.okWide Tryd.prog W .any base t v := hval0
  have hW' := hW
  obtain ⟨p, q, hA, hV, rfl, hfz, hnd⟩ := hW
  obtain ⟨rfl, rfl⟩ := trodVars_none hV
  have hA0 : DataW.TrodAll enc Tryd.prog W 0 (fun _ => true) true Tryd.f10.params.toList args.toList ds p := hA
  rw [Tryd.params10] at hA0 hval
  obtain ⟨v0, vs0, d0, ds0, p0, q0, hargs, rfl, rfl, h0, r0⟩ := trodAll_cons hA0
  obtain ⟨rfl, rfl, rfl⟩ := trodAll_nil r0
  obtain rfl : args = #[v0] := by cases args; simp_all
  obtain ⟨s, rfl, _, _, hs0⟩ := Go.ChangeMaps.open_string Tryd.underlying9 (hval 0 9 v0 rfl rfl) h0
  have hs : s.size ≤ 9223372036854775807 := by unfold maxLen at hs0; omega
  refine (walk W s (maxAt_of hsh)).mono fun e W' ⟨he, bel⟩ => ?_
  subst he
  exact ⟨_, rfl, law_post (s := Rows.fnExactPathNamesSpec) rfl (by kernel_rfl) (params_ok (by kernel_rfl)) hW' rfl rfl rfl bel⟩

theorem said : Rows.FnExactPathNamesSaid :=
  OpenClaim.holds_of_cond 10 Tryd.f10 rfl rfl rfl rfl rfl rfl rfl ⟨rfl, rfl, rfl, rfl, rfl⟩ rfl rfl rfl rfl rfl (by kernel_rfl) Tryd.func10 (by kernel_rfl)
    (of_decide_eq_true (by kernel_rfl)) (by unfold Func.isWrapper; first | (rw [if_pos (by decide +kernel)]; kernel_rfl) | (rw [if_neg (by decide +kernel)]; exact ⟨rfl, rfl⟩))
    (fun os started H enc _ F => by rw [OpenClaim.pre_eq_preRow]; exact lifted os started H enc F)

theorem plain (f : FuncId) (fn : Func) (hf : Tryd.pinned.checked.prog.funcNamed "loop.example/poolfiles/laws.FnExactPathNames" = some f) (hfn : Tryd.pinned.checked.prog.funcs[f]? = some fn) :
    false = Tryd.pinned.checked.prog.looks [] ∧ ∀ (j : Nat) t, fn.params[j]? = some t → Tryd.pinned.checked.prog.wantsStandIn t = false := by
  obtain rfl : f = 10 := Option.some.inj ((show Tryd.prog.funcNamed "loop.example/poolfiles/laws.FnExactPathNames" = some 10 by kernel_rfl).symm.trans hf) |>.symm
  obtain rfl : fn = Tryd.f10 := (Option.some.inj (Tryd.func10.symm.trans hfn)).symm
  refine ⟨by kernel_rfl, fun j t ht => ?_⟩
  have hall : (Tryd.f10.params.toList.all fun t => !(Tryd.prog.wantsStandIn t)) = true := by kernel_rfl
  have := List.all_eq_true.1 hall t (Array.mem_toList_iff.2 (Array.mem_of_getElem? ht))
  show Tryd.prog.wantsStandIn t = false
  simpa using this

theorem proved : Rows.FnExactPathNamesCardSaid :=
  Claim7.holds_tied_plain_at .later [] _ _ _ _ said (fun _ h => by cases h) (by kernel_rfl) (fun _ h => by cases h) fnExactPathNames_row_tie rfl ⟨rfl, rfl⟩ (by kernel_rfl) rfl plain (by kernel_rfl)

end Go.Proofs.YtanccfiiemlmeaaDoor.lawExactPathNames
