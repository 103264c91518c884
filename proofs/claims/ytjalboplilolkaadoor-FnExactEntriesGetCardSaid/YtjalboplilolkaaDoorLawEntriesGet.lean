/- FnExactEntriesGet returns true for every text. The package-level variables that its row lists are tied; no condition of ours. -/
import Derived.Test.YtjalboplilolkaaDoorEntGet
import Derived.Test.YtjalboplilolkaaDoorEntApart
import Derived.Test.YtjalboplilolkaaDoorCardNum
namespace Go.Proofs.YtjalboplilolkaaDoor.lawExactEntriesGet
open Go.ChangeShapes Go.WideShapes Go.ChangeAt Go.RowKit
set_option linter.unusedVariables false
set_option linter.unusedSimpArgs false

theorem entG_len {s : ByteArray} {l : List Ent} {b : Bool} (h : EntG s l b) : l.length ≤ 12 := by
  rcases h with ⟨_, h1, _⟩ | ⟨_, rfl, _⟩
  · exact (ent_ok h1).2
  · simp

set_option maxHeartbeats 4000000 in
theorem walk (w : World) (s : ByteArray) (hT : TenAt w) (hE : ErrAt w) (hM : CutAt w) : Calls Tryd.prog 6 #[.string s] w fun e w' => e = .returned (.bool true) ∧ Below w.heap.size w w' := by
  by_cases hbig : 1048576 < s.size
  · go_enter Tryd.func6, Tryd.ntmps6
    go_wp2
    go_ret
    exact ⟨rfl, Below.refl _ _⟩
  have HS := Lib.hid (specEntriesGet_any w s (by omega))
  have HI := Lib.hid (fun W hT hE hM => entriesGet_any W s hT hE hM (by omega))
  have LB := Lib.hid (And.intro hT (And.intro hE hM))
  clear hT hE hM
  go_enter Tryd.func6, Tryd.ntmps6
  go_wp2_with fail
  refine Calls.mono HS.out ?_
  rintro e w3 ⟨v, l, B, rfl, hG, hO, hB⟩
  have hln := entG_len hG
  obtain ⟨A3, c3, rfl, hl3, hc3, hf3, hrd3⟩ := hO.form
  have HG := Lib.hid hG
  have O0 := Lib.hid hO
  have HB3 := Lib.hid hB
  clear hO hf3 hrd3 hB hG HS
  go_wp2_with fail
  refine Calls.mono (HI.out w3 (LB.out.1.below HB3.out) (LB.out.2.1.below HB3.out) (LB.out.2.2.below HB3.out)) ?_
  rintro e w5 ⟨v, l', B', rfl, hG, hO, hB⟩
  obtain ⟨rfl, rfl⟩ := entG_one hG HG.out
  obtain ⟨A5, c5, rfl, hl5, hc5, hf5, hrd5⟩ := hO.form
  have OG := Lib.hid hO
  have ap0G := Lib.hid (apart O0.out OG.out (Nat.le_refl _))
  have HB5 := Lib.hid (below_below HB3.out hB)
  have P0 := Lib.hid (O0.out.below hB)
  have hs35 := HB3.out.size
  clear hO hf5 hrd5 hB hG
  have eB : (B' != B') = false := by simp
  go_wp2_with fail
  refine Calls.mono (eqEntryS_true _ A5 A3 c5 c3 l' (own_rd OG.out).1 (own_rd P0.out).1 hl5 hl3 hc5) ?_
  rintro e w6 ⟨rfl, hB⟩
  have HB6 := Lib.hid (below_below HB5.out hB)
  have P0 := Lib.hid (P0.out.below hB)
  have PG := Lib.hid (OG.out.below hB)
  clear hB HB5
  have n2 : ¬ (1 + 2 * (l'.length : Int) < 0) := by omega
  go_wp2_with fail
  refine Calls.mono (mark_any _ w6 _ 1 l' PG.out (by omega) (by omega) (by omega)) ?_
  rintro e w11 ⟨rfl, hM, hK⟩
  have HB11 := Lib.hid (HB6.out.trans (hK.below HB6.out.size (fun k hk => Nat.le_trans hs35 (own_above OG.out k hk).1)))
  have P0 := Lib.hid (P0.out.kp hK ap0G.out.2)
  have PM := Lib.hid hM
  clear hM hK HB6 PG
  go_wp2_with fail
  refine Calls.mono (heldEntryS_any w11 A5 c5 l'.length 1 (own_rd PM.out).1 hl5 (by omega) (by omega) (by omega)) ?_
  rintro e w12 ⟨rfl, hB⟩
  have HB12 := Lib.hid (below_below HB11.out hB)
  have P0 := Lib.hid (P0.out.below hB)
  have PM := Lib.hid (PM.out.below hB)
  clear hB HB11
  go_wp2_with fail
  refine Calls.mono (HI.out w12 (LB.out.1.below HB12.out) (LB.out.2.1.below HB12.out) (LB.out.2.2.below HB12.out)) ?_
  rintro e w14 ⟨v, l2, B2, rfl, hG, hO, hB⟩
  obtain ⟨rfl, rfl⟩ := entG_one hG HG.out
  obtain ⟨A14, c14, rfl, hl14, hc14, hf14, hrd14⟩ := hO.form
  have HR14 := Lib.hid hrd14
  have HB14 := Lib.hid (below_below HB12.out hB)
  have P0 := Lib.hid (P0.out.below hB)
  have PM := Lib.hid (PM.out.below hB)
  clear hO hf14 hrd14 hB HB12 hG
  go_wp2_with fail
  refine Calls.mono (eqEntryS_true _ A14 A3 c14 c3 l2 HR14.out (own_rd P0.out).1 hl14 hl3 hc14) ?_
  rintro e w15 ⟨rfl, hB⟩
  have HB15 := Lib.hid (below_below HB14.out hB)
  have PM := Lib.hid (PM.out.below hB)
  clear hB HB14 P0 HR14
  go_wp2_with fail
  refine Calls.mono (heldEntryS_any w15 A5 c5 l2.length 1 (own_rd PM.out).1 hl5 (by omega) (by omega) (by omega)) ?_
  rintro e w16 ⟨rfl, hB⟩
  have HB16 := Lib.hid (below_below HB15.out hB)
  clear hB
  go_wp2_with fail
  go_ret
  exact ⟨rfl, HB16.out⟩

theorem laid_met (os : Os) : laidMet Tryd.prog Rows.fnExactEntriesGetRow.laid ((World.laidAll Tryd.prog os Rows.fnExactEntriesGetRow.laid).forCall (fun _ _ => 0) ⟨#[], #[.string ⟨#[]⟩], []⟩).memory := laidMet_laidAll _ (by kernel_rfl) (by kernel_rfl)
theorem reads (os : Os) {H : Type} (enc : TypeId × Value → H) : ∃ places, DataW.whole enc Tryd.prog ((World.laidAll Tryd.prog os Rows.fnExactEntriesGetRow.laid).forCall (fun _ _ => 0) ⟨#[], #[.string ⟨#[]⟩], []⟩).memory Tryd.f6.params.toList Rows.fnExactEntriesGetSpec.vars false (#[.string ⟨#[]⟩] : Array Value).toList 8 = some ([.lit (.string [])], [], places) :=
  ⟨[], by kernel_rfl⟩

set_option maxRecDepth 100000 in
theorem lifted (os : Os) (started : os.Started) (H : Type) (enc : TypeId × Value → H) (F : Stop.Interp) :
    ReturnsInHanded {} Tryd.checked os 6 .any ((OpenSpec.ofChange Rows.fnExactEntriesGetSpec).preRow enc Tryd.prog Tryd.f6 Rows.fnExactEntriesGetRow.domain false Rows.fnExactEntriesGetRow.laid) (((OpenSpec.ofChange Rows.fnExactEntriesGetSpec).at F).post enc Tryd.prog Tryd.f6 false true false false) := by
  obtain ⟨places, hx⟩ := reads os enc
  refine returnsInHanded_of_row (C := Tryd.checked) (s := OpenSpec.ofChange Rows.fnExactEntriesGetSpec) own started (by kernel_rfl) Tryd.func6
    (witness_row_at (enc := enc) (C := Tryd.checked) false (World.laidAll Tryd.prog os Rows.fnExactEntriesGetRow.laid) #[.string ⟨#[]⟩] (World.laidAll_os _ _ _) (by kernel_rfl) (by kernel_rfl) (by kernel_rfl)
      (OpenSpec.preRow_of_cond 8 hx (by kernel_rfl) (fun k hk => by cases hk) (by kernel_rfl) (laid_met os))) ?_
  intro W base args ds gs before hval0 hW _ _ _ hL hsh _
  have hval : ∀ (j : Nat) t v, Tryd.f6.params[j]? = some t → args[j]? = some v → Value.okWide Tryd.prog W .any base t v := hval0
  have hW' := hW
  obtain ⟨p, q, hA, hV, rfl, hfz, hnd⟩ := hW
  obtain ⟨rfl, rfl⟩ := trodVars_none hV
  have hA0 : DataW.TrodAll enc Tryd.prog W 0 (fun _ => true) true Tryd.f6.params.toList args.toList ds p := hA
  rw [Tryd.params6] at hA0 hval
  obtain ⟨v0, vs0, d0, ds0, p0, q0, hargs, rfl, rfl, h0, r0⟩ := trodAll_cons hA0
  obtain ⟨rfl, rfl, rfl⟩ := trodAll_nil r0
  obtain rfl : args = #[v0] := by cases args; simp_all
  obtain ⟨s, rfl, _, _, hs0⟩ := Go.ChangeMaps.open_string Tryd.underlying9 (hval 0 9 v0 rfl rfl) h0
  have hs : s.size ≤ 9223372036854775807 := by unfold maxLen at hs0; omega
  refine (walk W s (tenAt_of hL.tail.tail) (errAt_of hL.tail.tail.tail.tail) (cutAt_of hsh)).mono fun e W' ⟨he, bel⟩ => ?_
  subst he
  exact ⟨_, rfl, law_post (s := Rows.fnExactEntriesGetSpec) rfl (by kernel_rfl) (params_ok (by kernel_rfl)) hW' rfl rfl rfl bel⟩

theorem said : Rows.FnExactEntriesGetSaid :=
  OpenClaim.holds_of_cond 6 Tryd.f6 rfl rfl rfl rfl rfl rfl rfl ⟨rfl, rfl, rfl, rfl, rfl⟩ rfl rfl rfl rfl rfl (by kernel_rfl) Tryd.func6 (by kernel_rfl)
    (of_decide_eq_true (by kernel_rfl)) (by unfold Func.isWrapper; first | (rw [if_pos (by decide +kernel)]; kernel_rfl) | (rw [if_neg (by decide +kernel)]; exact ⟨rfl, rfl⟩))
    (fun os started H enc _ F => by rw [OpenClaim.pre_eq_preRow]; exact lifted os started H enc F)

theorem plain (f : FuncId) (fn : Func) (hf : Tryd.pinned.checked.prog.funcNamed "loop.example/poolfiles/laws.FnExactEntriesGet" = some f) (hfn : Tryd.pinned.checked.prog.funcs[f]? = some fn) :
    true = Tryd.pinned.checked.prog.looks [] ∧ ∀ (j : Nat) t, fn.params[j]? = some t → Tryd.pinned.checked.prog.wantsStandIn t = false := by
  obtain rfl : f = 6 := Option.some.inj ((show Tryd.prog.funcNamed "loop.example/poolfiles/laws.FnExactEntriesGet" = some 6 by kernel_rfl).symm.trans hf) |>.symm
  obtain rfl : fn = Tryd.f6 := (Option.some.inj (Tryd.func6.symm.trans hfn)).symm
  refine ⟨by kernel_rfl, fun j t ht => ?_⟩
  have hall : (Tryd.f6.params.toList.all fun t => !(Tryd.prog.wantsStandIn t)) = true := by kernel_rfl
  have := List.all_eq_true.1 hall t (Array.mem_toList_iff.2 (Array.mem_of_getElem? ht))
  show Tryd.prog.wantsStandIn t = false
  simpa using this

theorem proved : Rows.FnExactEntriesGetCardSaid :=
  Claim7.holds_tied_plain_at .later [] _ _ _ _ said (fun _ h => by cases h) (by kernel_rfl) (fun _ h => by cases h) fnExactEntriesGet_row_tie rfl ⟨rfl, rfl⟩ (by kernel_rfl) rfl plain (by kernel_rfl)

end Go.Proofs.YtjalboplilolkaaDoor.lawExactEntriesGet
