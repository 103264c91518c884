/- FnEntriesAdd returns true for every code. No condition. -/
import Derived.Test.YtmbjioboepbjnaaDrawEnts3
import Derived.Test.YtmbjioboepbjnaaEntSet
import Derived.Test.YtmbjioboepbjnaaEntApart
import Derived.Test.YtmbjioboepbjnaaLaw
namespace Go.Proofs.Ytmbjioboepbjnaa.lawFnEntriesAdd
open Go.ChangeShapes Go.WideShapes Go.ChangeAt Go.RowKit Go.Sort
set_option linter.unusedVariables false
set_option linter.unusedSimpArgs false

set_option maxHeartbeats 2000000 in
theorem walk (w : World) (A : Option Addr) (cap : Nat) (zs : List Int) (h : RdT (encI .u8) 1 w A zs) (hb : ∀ z ∈ zs, 0 ≤ z ∧ z ≤ 255) (hc : zs.length ≤ cap) (hm : cap ≤ 9223372036854775807) :
    Calls Try.prog 4 #[.slice A zs.length cap] w fun e w' => e = .returned (.bool true) ∧ Below w.heap.size w w' := by
  have HD := Lib.hid (drawEntriesAdd_any w A cap zs h hb hc hm)
  clear h hb
  generalize zs.length = n at HD hc ⊢
  by_cases hbig : 1048576 < n
  · clear HD
    go_enter Try.func4, Try.ntmps4
    go_wp2
    go_ret
    exact ⟨rfl, Below.refl _ _⟩

  go_enter Try.func4, Try.ntmps4
  go_wp2_with fail
  refine Calls.mono HD.out ?_
  rintro e w1 ⟨v, es, nm, id, rfl, hO, hln, hz, hs, hB⟩
  obtain ⟨A1, c1, rfl, hc1, hm1, _, hrd⟩ := hO.form
  have hspot := own_spot hO
  have HR1 := Lib.hid hrd
  have HZ := Lib.hid (show ∀ e ∈ es, e.name.size ≤ 9223372036854775807 from fun e he => by have := hz e he; omega)
  have HB1 := Lib.hid hB
  clear hB HD hO hrd hz
  have HI := Lib.hid (fun w h => add_any w A1 c1 es ⟨nm, id⟩ h hc1 hm1 (by omega) HZ.out (by dsimp only; omega) hspot)
  have HS := Lib.hid (fun w h => specAdd_any w A1 c1 es ⟨nm, id⟩ h hc1 hm1 (by omega) HZ.out (by dsimp only; omega))
  dsimp only at HI HS
  cases hx : addB es ⟨nm, id⟩
  · rw [hx] at HI HS
    generalize addL es ⟨nm, id⟩ = m at *
    go_wp2_with fail
    refine Calls.mono (HI.out w1 HR1.out) ?_
    rintro e w2 ⟨v2, rfl, hO2, hB⟩
    obtain ⟨A2, c2, rfl, hc2, hm2, _, hrd2⟩ := hO2.form
    have M2 := Lib.hid hrd2
    have R2 := Lib.hid (HR1.out.below hB)
    have HB2 := Lib.hid (below_below HB1.out hB)
    clear hB hO2 hrd2
    go_wp2_with fail
    refine Calls.mono (HS.out w2 R2.out) ?_
    rintro e w3 ⟨v3, rfl, hO3, hB⟩
    obtain ⟨A3, c3, rfl, hc3, hm3, _, hrd3⟩ := hO3.form
    have N3 := Lib.hid hrd3
    have M3 := Lib.hid (M2.out.below hB)
    have HB3 := Lib.hid (below_below HB2.out hB)
    clear hB hO3 hrd3
    go_wp2_with fail
    refine Calls.mono (pfEntries_true w3 A2 A3 c2 c3 m M3.out N3.out hc2 hc3 hm2) ?_
    rintro e w4 ⟨rfl, hB⟩
    have HB4 := Lib.hid (below_below HB3.out hB)
    clear hB
    go_wp2_with fail
    go_ret
    exact ⟨rfl, HB4.out⟩
  · obtain ⟨j1, j2, j3, j4, j5⟩ := add_law hx
    dsimp only at j2 j3 j4
    have hz1 : ∀ e ∈ addL es ⟨nm, id⟩, e.name.size ≤ 9223372036854775807 := fun e he => by
      rcases ((add_true hx).2.1 e).1 he with rfl | he
      · dsimp only; omega
      · exact HZ.out e he
    have hl1 : (addL es ⟨nm, id⟩).length ≤ 1048576 := by have := (add_true hx).2.2; omega
    have HF := Lib.hid (fun nm' w A c h hc hm => find_any w A c (addL es ⟨nm, id⟩) nm' h hc hm hz1)
    have HL := Lib.hid (fun w A c h hc hm => less_any w A c (addL es ⟨nm, id⟩) nm h hc hm hl1 hz1)
    have HK := Lib.hid (fun w A c h hc hm => entriesOk_any w A c (addL es ⟨nm, id⟩) h hc hm hz1)
    rw [j2, j3] at HL
    rw [j5] at HK
    have J1 := Lib.hid j1
    have J4 := Lib.hid j4
    rw [hx] at HI HS
    clear hz1 hx j1 j2 j3 j4 j5 hl1
    generalize addL es ⟨nm, id⟩ = m at *
    go_wp2_with fail
    refine Calls.mono (HI.out w1 HR1.out) ?_
    rintro e w2 ⟨v2, rfl, hO2, hB⟩
    obtain ⟨A2, c2, rfl, hc2, hm2, _, hrd2⟩ := hO2.form
    have M2 := Lib.hid hrd2
    have R2 := Lib.hid (HR1.out.below hB)
    have HB2 := Lib.hid (below_below HB1.out hB)
    clear hB hO2 hrd2
    go_wp2_with fail
    refine Calls.mono (HS.out w2 R2.out) ?_
    rintro e w3 ⟨v3, rfl, hO3, hB⟩
    obtain ⟨A3, c3, rfl, hc3, hm3, _, hrd3⟩ := hO3.form
    have N3 := Lib.hid hrd3
    have M3 := Lib.hid (M2.out.below hB)
    have R3 := Lib.hid (R2.out.below hB)
    have HB3 := Lib.hid (below_below HB2.out hB)
    clear hB hO3 hrd3
    go_wp2_with fail
    refine Calls.mono (pfEntries_true w3 A2 A3 c2 c3 m M3.out N3.out hc2 hc3 hm2) ?_
    rintro e w4 ⟨rfl, hB⟩
    have M4 := Lib.hid (M3.out.below hB)
    have R4 := Lib.hid (R3.out.below hB)
    have HB4 := Lib.hid (below_below HB3.out hB)
    clear hB M3 R3 M2 R2 N3 HI HS
    go_wp2_with fail
    go_loopw [11] (fun i wr => ∃ k : Nat, k ≤ es.length ∧ i = .int .i64 k ∧ Hid (Below w4.heap.size w4 wr)) (fun i _ => es.length - (intOf i).toNat)
    case atStart => exact ⟨0, Nat.zero_le _, rfl, Lib.hid (Below.refl _ _)⟩
    case round =>
      obtain ⟨k, hk, rfl, HB⟩ := hrel
      have M5 := Lib.hid (M4.out.below HB.out)
      have R5 := Lib.hid (R4.out.below HB.out)
      by_cases hlt : k < es.length
      · obtain ⟨b, off, en, eid, rfl, hb, he, c0, d0⟩ := R5.out.entry hlt
        have e1 : findOf m en = eid := J1.out ⟨en, eid⟩ (List.mem_of_getElem? he)
        have HF2 := Lib.hid (fun w h => HF.out en w A2 c2 h hc2 hm2)
        rw [e1] at HF2
        clear he e1
        have e2 : (eid != eid) = false := by simp
        go_wp2_with fail
        refine wp_quiet_b (by kernel_rfl) (by kernel_rfl) (fun hgrow => ?_)
        repeat (go_big_quiet_step ((go_at_call 9; exact quiet_b (HF2.out _ (M5.out.below (below_regrown _ _ _))))))
        refine wpQuiet_nil ?_
        intro w2 hww2
        replace hww2 := below_of_regrown hww2
        clear hgrow
        go_wp2_with fail
        go_roundw
        case rel => exact ⟨k + 1, by omega, by go_num, Lib.hid (HB.out.trans (hww2.mono HB.out.size))⟩
        case measure => simp [intOf]; omega
      · obtain rfl : k = es.length := by omega
        have HF2 := Lib.hid (fun w h => HF.out nm w A2 c2 h hc2 hm2)
        rw [J4.out] at HF2
        have HBr := Lib.hid (below_below HB4.out HB.out)
        go_wp2_with fail
        refine Calls.mono (HL.out wr A2 c2 M5.out hc2 hm2) ?_
        rintro e w6 ⟨v6, rfl, hO6, hB⟩
        obtain ⟨A6, c6, rfl, hc6, hm6, _, hrd6⟩ := hO6.form
        have N6 := Lib.hid hrd6
        have M6 := Lib.hid (M5.out.below hB)
        have R6 := Lib.hid (R5.out.below hB)
        have HB6 := Lib.hid (below_below HBr.out hB)
        clear hB hO6 hrd6
        go_wp2_with fail
        refine Calls.mono (HF2.out w6 M6.out) ?_
        rintro e w7 ⟨rfl, hB⟩
        have N7 := Lib.hid (N6.out.below hB)
        have M7 := Lib.hid (M6.out.below hB)
        have R7 := Lib.hid (R6.out.below hB)
        have HB7 := Lib.hid (below_below HB6.out hB)
        clear hB
        go_wp2_with fail
        refine Calls.mono (pfEntries_true w7 A6 A1 c6 c1 es N7.out R7.out hc6 hc1 hm6) ?_
        rintro e w8 ⟨rfl, hB⟩
        have M8 := Lib.hid (M7.out.below hB)
        have HB8 := Lib.hid (below_below HB7.out hB)
        clear hB
        go_wp2_with fail
        refine Calls.mono (HK.out w8 A2 c2 M8.out hc2 hm2) ?_
        rintro e w9 ⟨rfl, hB⟩
        have HB9 := Lib.hid (below_below HB8.out hB)
        clear hB
        go_wp2_with fail
        go_ret
        exact ⟨rfl, HB9.out⟩

set_option maxRecDepth 100000 in
theorem lifted (os : Os) (started : os.Started) (H : Type) (enc : TypeId × Value → H) :
    ReturnsInHanded {} Try.checked os 4 .any (Rows.fnEntriesAddSpec.pre6 enc Try.prog Try.f4 Rows.fnEntriesAddRow.domain false) (Rows.fnEntriesAddSpec.post enc Try.prog Try.f4 false true false false) := by
  refine returnsInHanded_of_change (C := Try.checked) own started (by kernel_rfl) Try.func4
    (ChangeSpec.witness6 (enc := enc) (C := Try.checked) false ⟨#[], #[.slice none 0 0], []⟩ 8 (by kernel_rfl) (by kernel_rfl) (by kernel_rfl) (by kernel_rfl)) ?_
  intro W base args ds gs before hval0 hW hcnd _
  have hval : ∀ (j : Nat) t v, Try.f4.params[j]? = some t → args[j]? = some v → Value.okWide Try.prog W .any base t v := hval0
  have hW' := hW
  obtain ⟨p, q, hA, hV, rfl, hfz, hnd⟩ := hW
  obtain ⟨rfl, rfl⟩ := trodVars_none hV
  have hA0 : DataW.TrodAll enc Try.prog W 0 (fun _ => true) true Try.f4.params.toList args.toList ds p := hA
  rw [Try.params4] at hA0 hval
  obtain ⟨v0, vs0, d0, ds0, p0, q0, hargs, rfl, rfl, h0, r0⟩ := trodAll_cons hA0
  obtain ⟨rfl, rfl, rfl⟩ := trodAll_nil r0
  obtain rfl : args = #[v0] := by cases args; simp_all
  obtain ⟨cA, cc, c, rfl, chc, chm, cr, cb⟩ := open_code (hval 0 22 v0 rfl rfl) h0
  refine (walk W cA cc c cr cb chc chm).mono fun e W' ⟨he, bel⟩ => ?_
  subst he
  exact ⟨_, rfl, law_post rfl (by kernel_rfl) (params_ok (by kernel_rfl)) hW' rfl rfl rfl bel⟩

theorem proved : Rows.FnEntriesAddSaid :=
  OpenClaim.holds_of_wide 4 Try.f4 rfl rfl rfl rfl rfl rfl rfl ⟨rfl, rfl, rfl, rfl, rfl⟩ rfl rfl rfl rfl rfl (by kernel_rfl) Try.func4 (by kernel_rfl)
    (of_decide_eq_true (by kernel_rfl)) (by unfold Func.isWrapper; first | (rw [if_pos (by decide +kernel)]; kernel_rfl) | (rw [if_neg (by decide +kernel)]; exact ⟨rfl, rfl⟩))
    (fun os started H enc _ => lifted os started H enc)

end Go.Proofs.Ytmbjioboepbjnaa.lawFnEntriesAdd
