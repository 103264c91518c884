/- FnExactEntriesPut returns true for every list. The package-level variables that its row lists are tied; no condition of ours. -/
import Derived.Test.YtjalboplilolkaaDoorEntHelp
import Derived.Test.YtjalboplilolkaaDoorEntText
import Derived.Test.YtjalboplilolkaaDoorCardNum
namespace Go.Proofs.YtjalboplilolkaaDoor.lawExactEntriesPut
open Go.ChangeShapes Go.WideShapes Go.ChangeAt Go.RowKit
set_option linter.unusedVariables false
set_option linter.unusedSimpArgs false

set_option maxHeartbeats 4000000 in
theorem walk (w : World) (A : Option Addr) (cap : Nat) (es : List Ent) (h : RdT encE 2 w A es) (hc : es.length ≤ cap) (hm : cap ≤ 9223372036854775807) (hz : ∀ e ∈ es, e.name.size ≤ 9223372036854775807) (hT : TenAt w) :
    Calls Tryd.prog 7 #[.slice A es.length cap] w fun e w' => e = .returned (.bool true) ∧ Below w.heap.size w w' := by
  have HR := Lib.hid h
  have HZ := Lib.hid hz
  have HT := Lib.hid hT
  clear h hz hT
  go_enter Tryd.func7, Tryd.ntmps7
  go_wp2_with fail
  refine Calls.mono (szEntryS_any w A cap es _ HR.out hc hm HZ.out (by omega) (by omega)) ?_
  rintro e w1 ⟨r, rfl, hr0, hr1, hr2, hB1⟩
  have HB1 := Lib.hid hB1
  clear hB1
  by_cases hneg : r < 0
  · go_wp2_with fail
    go_ret
    exact ⟨rfl, HB1.out⟩
  · have hn : es.length ≤ 1048576 := by have := hr2 (by omega); omega
    clear hr2
    have HE := Lib.hid (show ∀ w A cap, RdT encE 2 w A es → es.length ≤ cap → cap ≤ 9223372036854775807 → _ from fun w A cap h hc hm => specEntriesPut_any w A cap es h hc hm HZ.out)
    have HI := Lib.hid (show ∀ w A cap, TenAt w → RdT encE 2 w A es → es.length ≤ cap → cap ≤ 9223372036854775807 → _ from fun w A cap hT h hc hm => entriesPut_any w A cap es hT h hc hm HZ.out)
    unfold PutE at HE HI
    generalize (if entriesOkB es = true then entsT es else ⟨#[]⟩ : ByteArray) = S at HE HI
    generalize entriesOkB es = B at HE HI
    go_wp2_with fail
    refine Calls.mono (toEntryS_any _ A cap es (HR.out.below HB1.out) hc hn) ?_
    rintro e w2 ⟨v, rfl, hO, hB2⟩
    obtain ⟨A2, c2, rfl, hl2, hc2, hf2, hrd2⟩ := hO.form
    have HR2 := Lib.hid hrd2
    have HB2 := Lib.hid (below_below HB1.out hB2)
    clear hO hf2 hrd2 hB2
    go_wp2_with fail
    refine Calls.mono (HE.out _ A2 c2 HR2.out hl2 hc2) ?_
    rintro e w3 ⟨rfl, hB3⟩
    have HB3 := Lib.hid (below_below HB2.out hB3)
    clear hB3
    go_wp2_with fail
    refine Calls.mono (toEntryS_any _ A cap es (HR.out.below HB3.out) hc hn) ?_
    rintro e w4 ⟨v, rfl, hO, hB4⟩
    obtain ⟨A4, c4, rfl, hl4, hc4, hf4, hrd4⟩ := hO.form
    have HR4 := Lib.hid hrd4
    have HB4 := Lib.hid (below_below HB3.out hB4)
    clear hO hf4 hrd4 hB4
    go_wp2_with fail
    refine Calls.mono (HI.out _ A4 c4 (HT.out.below HB4.out) HR4.out hl4 hc4) ?_
    rintro e w5 ⟨rfl, hB5⟩
    have HR5 := Lib.hid (HR4.out.below hB5)
    have HB5 := Lib.hid (below_below HB4.out hB5)
    have eS : (S.toList != S.toList) = false := by simp
    have eB : (B != B) = false := by simp
    clear hB5
    go_wp2_with fail
    refine Calls.mono (toEntryS_any _ A cap es (HR.out.below HB5.out) hc hn) ?_
    rintro e w6 ⟨v, rfl, hO, hB6⟩
    obtain ⟨A6, c6, rfl, hl6, hc6, hf6, hrd6⟩ := hO.form
    have HR6 := Lib.hid hrd6
    have HR6' := Lib.hid (HR5.out.below hB6)
    have HB6 := Lib.hid (below_below HB5.out hB6)
    clear hO hf6 hrd6 hB6
    go_wp2_with fail
    refine Calls.mono (eqEntryS_true _ A4 A6 c4 c6 es HR6'.out HR6.out hl4 hl6 hc4) ?_
    rintro e w7 ⟨rfl, hB7⟩
    have HB7 := Lib.hid (below_below HB6.out hB7)
    clear hB7
    go_wp2_with fail
    go_ret
    exact ⟨rfl, HB7.out⟩

theorem laid_met (os : Os) : laidMet Tryd.prog Rows.fnExactEntriesPutRow.laid ((World.laidAll Tryd.prog os Rows.fnExactEntriesPutRow.laid).forCall (fun _ _ => 0) ⟨#[], #[.slice none 0 0], []⟩).memory := laidMet_laidAll _ (by kernel_rfl) (by kernel_rfl)
theorem reads (os : Os) {H : Type} (enc : TypeId × Value → H) : ∃ places, DataW.whole enc Tryd.prog ((World.laidAll Tryd.prog os Rows.fnExactEntriesPutRow.laid).forCall (fun _ _ => 0) ⟨#[], #[.slice none 0 0], []⟩).memory Tryd.f7.params.toList Rows.fnExactEntriesPutSpec.vars false (#[.slice none 0 0] : Array Value).toList 8 = some ([.nil], [], places) :=
  ⟨[], by kernel_rfl⟩

set_option maxRecDepth 100000 in
theorem lifted (os : Os) (started : os.Started) (H : Type) (enc : TypeId × Value → H) (F : Stop.Interp) :
    ReturnsInHanded {} Tryd.checked os 7 .any ((OpenSpec.ofChange Rows.fnExactEntriesPutSpec).preRow enc Tryd.prog Tryd.f7 Rows.fnExactEntriesPutRow.domain false Rows.fnExactEntriesPutRow.laid) (((OpenSpec.ofChange Rows.fnExactEntriesPutSpec).at F).post enc Tryd.prog Tryd.f7 false true false false) := by
  obtain ⟨places, hx⟩ := reads os enc
  refine returnsInHanded_of_row (C := Tryd.checked) (s := OpenSpec.ofChange Rows.fnExactEntriesPutSpec) own started (by kernel_rfl) Tryd.func7
    (witness_row_at (enc := enc) (C := Tryd.checked) false (World.laidAll Tryd.prog os Rows.fnExactEntriesPutRow.laid) #[.slice none 0 0] (World.laidAll_os _ _ _) (by kernel_rfl) (by kernel_rfl) (by kernel_rfl)
      (OpenSpec.preRow_of_cond 8 hx (by kernel_rfl) (fun k hk => by cases hk) (by kernel_rfl) (laid_met os))) ?_
  intro W base args ds gs before hval0 hW _ _ _ hL hsh _
  have hval : ∀ (j : Nat) t v, Tryd.f7.params[j]? = some t → args[j]? = some v → Value.okWide Tryd.prog W .any base t v := hval0
  have hW' := hW
  obtain ⟨p, q, hA, hV, rfl, hfz, hnd⟩ := hW
  obtain ⟨rfl, rfl⟩ := trodVars_none hV
  have hA0 : DataW.TrodAll enc Tryd.prog W 0 (fun _ => true) true Tryd.f7.params.toList args.toList ds p := hA
  rw [Tryd.params7] at hA0 hval
  obtain ⟨v0, vs0, d0, ds0, p0, q0, hargs, rfl, rfl, h0, r0⟩ := trodAll_cons hA0
  obtain ⟨rfl, rfl, rfl⟩ := trodAll_nil r0
  obtain rfl : args = #[v0] := by cases args; simp_all
  obtain ⟨esA, esc, es, rfl, eshc, eshm, esr, esb⟩ := open_entries (hval 0 35 v0 rfl rfl) h0
  refine (walk W esA esc es esr eshc eshm esb (tenAt_of hL.tail.tail)).mono fun e W' ⟨he, bel⟩ => ?_
  subst he
  exact ⟨_, rfl, law_post (s := Rows.fnExactEntriesPutSpec) rfl (by kernel_rfl) (params_ok (by kernel_rfl)) hW' rfl rfl rfl bel⟩

theorem said : Rows.FnExactEntriesPutSaid :=
  OpenClaim.holds_of_cond 7 Tryd.f7 rfl rfl rfl rfl rfl rfl rfl ⟨rfl, rfl, rfl, rfl, rfl⟩ rfl rfl rfl rfl rfl (by kernel_rfl) Tryd.func7 (by kernel_rfl)
    (of_decide_eq_true (by kernel_rfl)) (by unfold Func.isWrapper; first | (rw [if_pos (by decide +kernel)]; kernel_rfl) | (rw [if_neg (by decide +kernel)]; exact ⟨rfl, rfl⟩))
    (fun os started H enc _ F => by rw [OpenClaim.pre_eq_preRow]; exact lifted os started H enc F)

theorem plain (f : FuncId) (fn : Func) (hf : Tryd.pinned.checked.prog.funcNamed "loop.example/poolfiles/laws.FnExactEntriesPut" = some f) (hfn : Tryd.pinned.checked.prog.funcs[f]? = some fn) :
    true = Tryd.pinned.checked.prog.looks [] ∧ ∀ (j : Nat) t, fn.params[j]? = some t → Tryd.pinned.checked.prog.wantsStandIn t = false := by
  obtain rfl : f = 7 := Option.some.inj ((show Tryd.prog.funcNamed "loop.example/poolfiles/laws.FnExactEntriesPut" = some 7 by kernel_rfl).symm.trans hf) |>.symm
  obtain rfl : fn = Tryd.f7 := (Option.some.inj (Tryd.func7.symm.trans hfn)).symm
  refine ⟨by kernel_rfl, fun j t ht => ?_⟩
  have hall : (Tryd.f7.params.toList.all fun t => !(Tryd.prog.wantsStandIn t)) = true := by kernel_rfl
  have := List.all_eq_true.1 hall t (Array.mem_toList_iff.2 (Array.mem_of_getElem? ht))
  show Tryd.prog.wantsStandIn t = false
  simpa using this

theorem proved : Rows.FnExactEntriesPutCardSaid :=
  Claim7.holds_tied_plain_at .later [] _ _ _ _ said (fun _ h => by cases h) (by kernel_rfl) (fun _ h => by cases h) fnExactEntriesPut_row_tie rfl ⟨rfl, rfl⟩ (by kernel_rfl) rfl plain (by kernel_rfl)

end Go.Proofs.YtjalboplilolkaaDoor.lawExactEntriesPut
