/- FnExactEntriesAdd returns true for every list, every name and every number. No condition. -/
import Derived.Test.YtdjpacfcimifdaaEntApart
import Derived.Test.YtdjpacfcimifdaaEntAdd4
import Derived.Test.YtdjpacfcimifdaaLaw
namespace Go.Proofs.Ytdjpacfcimifdaa.lawExactEntriesAdd
open Go.ChangeShapes Go.WideShapes Go.ChangeAt Go.RowKit
set_option linter.unusedVariables false
set_option linter.unusedSimpArgs false

theorem addL_len (es : List Ent) (x : Ent) : (addL es x).length ≤ 1048576 := by
  unfold addL
  split
  · next h =>
    simp only [addB, Bool.and_eq_true] at h
    have := ok_length h.2.2
    omega
  · simp

set_option maxHeartbeats 4000000 in
theorem walk (w : World) (A : Option Addr) (cap : Nat) (es : List Ent) (x : Ent) (h : RdT encE 2 w A es) (hc : es.length ≤ cap) (hm : cap ≤ 9223372036854775807) (hz : ∀ e ∈ es, e.name.size ≤ 9223372036854775807) :
    Calls Try.prog 10 #[.slice A es.length cap, .string x.name, .int .i64 x.id] w fun e w' => e = .returned (.bool true) ∧ Below w.heap.size w w' := by
  have HR := Lib.hid h
  have HZ := Lib.hid hz
  clear h hz
  by_cases hbig : 1048576 < x.name.size
  · go_enter Try.func10, Try.ntmps10
    go_wp2
    go_ret
    exact ⟨rfl, Below.refl _ _⟩
  go_enter Try.func10, Try.ntmps10
  go_wp2_with fail
  refine Calls.mono (szEntryS_any w A cap es _ HR.out hc hm HZ.out (by omega) (by omega)) ?_
  rintro e w1 ⟨r, rfl, hr0, hr1, hr2, hB1⟩
  have HB1 := Lib.hid hB1
  clear hB1
  by_cases hneg : r < 0
  · go_wp2_with fail
    go_ret
    exact ⟨rfl, HB1.out⟩
  have hn : es.length ≤ 1048576 := by have := hr2 (by omega); omega
  clear hr2
  have HE := Lib.hid (show ∀ w A cap, RdT encE 2 w A es → es.length ≤ cap → cap ≤ 9223372036854775807 → _ from fun w A cap h hc hm => specAdd_any w A cap es x h hc hm hn HZ.out (by omega))
  have HI := Lib.hid (show ∀ w A cap, RdT encE 2 w A es → es.length ≤ cap → cap ≤ 9223372036854775807 → (∀ a, A = some a → a.spot = none) → _ from fun w A cap h hc hm hA => add_any w A cap es x h hc hm hn HZ.out (by omega) hA)
  have hln : (addL es x).length ≤ 1048576 := addL_len es x
  generalize addB es x = B at HE HI
  generalize addL es x = l at HE HI hln
  -- the reference
  go_wp2_with fail
  refine Calls.mono (toEntryS_any _ A cap es (HR.out.below HB1.out) hc hn) ?_
  rintro e w2 ⟨v, rfl, hO, hB2⟩
  obtain ⟨A2, c2, rfl, hl2, hc2, hf2, hrd2⟩ := hO.form
  have HR2 := Lib.hid hrd2
  have HB2 := Lib.hid (below_below HB1.out hB2)
  clear hO hf2 hrd2 hB2 HB1
  go_wp2_with fail
  refine Calls.mono (HE.out _ A2 c2 HR2.out hl2 hc2) ?_
  rintro e w3 ⟨v, rfl, hO, hB3⟩
  obtain ⟨A3, c3, rfl, hl3, hc3, hf3, hrd3⟩ := hO.form
  have O0 := Lib.hid hO
  have HB3 := Lib.hid (below_below HB2.out hB3)
  clear hO hf3 hrd3 hB3 HB2 HR2
  -- the program's
  go_wp2_with fail
  refine Calls.mono (toEntryS_any _ A cap es (HR.out.below HB3.out) hc hn) ?_
  rintro e w4 ⟨v, rfl, hO, hB4⟩
  obtain ⟨A4, c4, rfl, hl4, hc4, hf4, hrd4⟩ := hO.form
  have OX := Lib.hid hO
  have HR4 := Lib.hid hrd4
  have hB4' := Lib.hid hB4
  have HB4 := Lib.hid (below_below HB3.out hB4)
  clear hO hf4 hrd4 hB4
  go_wp2_with fail
  refine Calls.mono (HI.out _ A4 c4 HR4.out hl4 hc4 (own_spot OX.out)) ?_
  rintro e w5 ⟨v, rfl, hO, hB5⟩
  obtain ⟨A5, c5, rfl, hl5, hc5, hf5, hrd5⟩ := hO.form
  have OG := Lib.hid hO
  have ap0X := Lib.hid (apart O0.out OX.out (Nat.le_refl _))
  have apXG := Lib.hid (apart OX.out OG.out (Nat.le_refl _))
  have ap0G := Lib.hid (apart O0.out OG.out hB4'.out.size)
  have HB5 := Lib.hid (below_below HB4.out hB5)
  have P0 := Lib.hid ((O0.out.below hB4'.out).below hB5)
  have PX := Lib.hid (OX.out.below hB5)
  clear hO hf5 hrd5 hB5 HR4
  go_wp2_with fail
  refine Calls.mono (eqEntryS_true _ A5 A3 c5 c3 l (own_rd OG.out).1 (own_rd P0.out).1 hl5 hl3 hc5) ?_
  rintro e w6 ⟨rfl, hB⟩
  have HB6 := Lib.hid (below_below HB5.out hB)
  have P0 := Lib.hid (P0.out.below hB)
  have PX := Lib.hid (PX.out.below hB)
  have PG := Lib.hid (OG.out.below hB)
  clear hB HB5
  go_wp2_with fail
  refine Calls.mono (toEntryS_any _ A cap es (HR.out.below HB6.out) hc hn) ?_
  rintro e w7 ⟨v, rfl, hO, hB⟩
  obtain ⟨A7, c7, rfl, hl7, hc7, hf7, hrd7⟩ := hO.form
  have HR7 := Lib.hid hrd7
  have HB7 := Lib.hid (below_below HB6.out hB)
  have P0 := Lib.hid (P0.out.below hB)
  have PX := Lib.hid (PX.out.below hB)
  have PG := Lib.hid (PG.out.below hB)
  clear hO hf7 hrd7 hB HB6
  go_wp2_with fail
  refine Calls.mono (eqEntryS_true _ A4 A7 c4 c7 es (own_rd PX.out).1 HR7.out hl4 hl7 hc4) ?_
  rintro e w8 ⟨rfl, hB⟩
  have HB8 := Lib.hid (below_below HB7.out hB)
  have P0 := Lib.hid (P0.out.below hB)
  have PX := Lib.hid (PX.out.below hB)
  have PG := Lib.hid (PG.out.below hB)
  clear hB HB7 HR7
  have n1 : ¬ (1 + 2 * (es.length : Int) < 0) := by omega
  have n2 : ¬ (1 + 2 * (l.length : Int) < 0) := by omega
  -- the argument's copy marked
  go_wp2_with fail
  refine Calls.mono (mark_any _ w8 _ 1 es PX.out hn (by omega) (by omega)) ?_
  rintro e w9 ⟨rfl, _, hK⟩
  have HB9 := Lib.hid (HB8.out.trans (hK.below HB8.out.size (fun k hk => Nat.le_trans HB3.out.size (own_above OX.out k hk).1)))
  have P0 := Lib.hid (P0.out.kp hK ap0X.out.2)
  have PG := Lib.hid (PG.out.kp hK apXG.out.1)
  clear hK HB8 PX
  go_wp2_with fail
  refine Calls.mono (eqEntryS_true _ A5 A3 c5 c3 l (own_rd PG.out).1 (own_rd P0.out).1 hl5 hl3 hc5) ?_
  rintro e w10 ⟨rfl, hB⟩
  have HB10 := Lib.hid (below_below HB9.out hB)
  have P0 := Lib.hid (P0.out.below hB)
  have PG := Lib.hid (PG.out.below hB)
  clear hB HB9
  -- the result marked
  go_wp2_with fail
  refine Calls.mono (mark_any _ w10 _ 1 l PG.out hln (by omega) (by omega)) ?_
  rintro e w11 ⟨rfl, hM, hK⟩
  have HB11 := Lib.hid (HB10.out.trans (hK.below HB10.out.size (fun k hk => Nat.le_trans HB4.out.size (own_above OG.out k hk).1)))
  have P0 := Lib.hid (P0.out.kp hK ap0G.out.2)
  have PM := Lib.hid hM
  clear hM hK HB10 PG
  go_wp2_with fail
  refine Calls.mono (heldEntryS_any w11 A5 c5 l.length 1 (own_rd PM.out).1 hl5 hln (by omega) (by omega)) ?_
  rintro e w12 ⟨rfl, hB⟩
  have HB12 := Lib.hid (below_below HB11.out hB)
  have P0 := Lib.hid (P0.out.below hB)
  have PM := Lib.hid (PM.out.below hB)
  clear hB HB11
  -- the second call
  go_wp2_with fail
  refine Calls.mono (toEntryS_any _ A cap es (HR.out.below HB12.out) hc hn) ?_
  rintro e w13 ⟨v, rfl, hO, hB⟩
  obtain ⟨A13, c13, rfl, hl13, hc13, hf13, hrd13⟩ := hO.form
  have HR13 := Lib.hid hrd13
  have HS13 := Lib.hid (own_spot hO)
  have HB13 := Lib.hid (below_below HB12.out hB)
  have P0 := Lib.hid (P0.out.below hB)
  have PM := Lib.hid (PM.out.below hB)
  clear hO hf13 hrd13 hB HB12
  go_wp2_with fail
  refine Calls.mono (HI.out _ A13 c13 HR13.out hl13 hc13 HS13.out) ?_
  rintro e w14 ⟨v, rfl, hO, hB⟩
  obtain ⟨A14, c14, rfl, hl14, hc14, hf14, hrd14⟩ := hO.form
  have HR14 := Lib.hid hrd14
  have HB14 := Lib.hid (below_below HB13.out hB)
  have P0 := Lib.hid (P0.out.below hB)
  have PM := Lib.hid (PM.out.below hB)
  clear hO hf14 hrd14 hB HB13 HR13
  go_wp2_with fail
  refine Calls.mono (eqEntryS_true _ A14 A3 c14 c3 l HR14.out (own_rd P0.out).1 hl14 hl3 hc14) ?_
  rintro e w15 ⟨rfl, hB⟩
  have HB15 := Lib.hid (below_below HB14.out hB)
  have PM := Lib.hid (PM.out.below hB)
  clear hB HB14 P0 HR14
  go_wp2_with fail
  refine Calls.mono (heldEntryS_any w15 A5 c5 l.length 1 (own_rd PM.out).1 hl5 hln (by omega) (by omega)) ?_
  rintro e w16 ⟨rfl, hB⟩
  have HB16 := Lib.hid (below_below HB15.out hB)
  clear hB
  go_wp2_with fail
  go_ret
  exact ⟨rfl, HB16.out⟩

set_option maxRecDepth 100000 in
theorem lifted (os : Os) (started : os.Started) (H : Type) (enc : TypeId × Value → H) :
    ReturnsInHanded {} Try.checked os 10 .any (Rows.fnExactEntriesAddSpec.pre6 enc Try.prog Try.f10 Rows.fnExactEntriesAddRow.domain false) (Rows.fnExactEntriesAddSpec.post enc Try.prog Try.f10 false true false false) := by
  refine returnsInHanded_of_change (C := Try.checked) own started (by kernel_rfl) Try.func10
    (ChangeSpec.witness6 (enc := enc) (C := Try.checked) false ⟨#[], #[.slice none 0 0, .string ⟨#[]⟩, .int .i64 0], []⟩ 8 (by kernel_rfl) (by kernel_rfl) (by kernel_rfl) (by kernel_rfl)) ?_
  intro W base args ds gs before hval0 hW hcnd _
  have hval : ∀ (j : Nat) t v, Try.f10.params[j]? = some t → args[j]? = some v → Value.okWide Try.prog W .any base t v := hval0
  have hW' := hW
  obtain ⟨p, q, hA, hV, rfl, hfz, hnd⟩ := hW
  obtain ⟨rfl, rfl⟩ := trodVars_none hV
  have hA0 : DataW.TrodAll enc Try.prog W 0 (fun _ => true) true Try.f10.params.toList args.toList ds p := hA
  rw [Try.params10] at hA0 hval
  obtain ⟨v0, vs0, d0, ds0, p0, q0, hargs, rfl, rfl, h0, r0⟩ := trodAll_cons hA0
  obtain ⟨v1, vs1, d1, ds1, p1, q1, rfl, rfl, rfl, h1, r1⟩ := trodAll_cons r0
  obtain ⟨v2, vs2, d2, ds2, p2, q2, rfl, rfl, rfl, h2, r2⟩ := trodAll_cons r1
  obtain ⟨rfl, rfl, rfl⟩ := trodAll_nil r2
  obtain rfl : args = #[v0, v1, v2] := by cases args; simp_all
  obtain ⟨esA, esc, es, rfl, eshc, eshm, esr, esb⟩ := open_entries (hval 0 23 v0 rfl rfl) h0
  obtain ⟨nm, rfl, _, _, hnm0⟩ := Go.ChangeMaps.open_string Try.underlying9 (hval 1 9 v1 rfl rfl) h1
  have hnm : nm.size ≤ 9223372036854775807 := by unfold maxLen at hnm0; omega
  obtain ⟨id, rfl, _, _, wid⟩ := open_int Try.underlying3 (hval 2 3 v2 rfl rfl) h2
  refine (walk W esA esc es ⟨nm, id⟩ esr eshc eshm esb).mono fun e W' ⟨he, bel⟩ => ?_
  subst he
  exact ⟨_, rfl, law_post rfl (by kernel_rfl) (params_ok (by kernel_rfl)) hW' rfl rfl rfl bel⟩

theorem proved : Rows.FnExactEntriesAddSaid :=
  OpenClaim.holds_of_wide 10 Try.f10 rfl rfl rfl rfl rfl rfl rfl ⟨rfl, rfl, rfl, rfl, rfl⟩ rfl rfl rfl rfl rfl (by kernel_rfl) Try.func10 (by kernel_rfl)
    (of_decide_eq_true (by kernel_rfl)) (by unfold Func.isWrapper; first | (rw [if_pos (by decide +kernel)]; kernel_rfl) | (rw [if_neg (by decide +kernel)]; exact ⟨rfl, rfl⟩))
    (fun os started H enc _ => lifted os started H enc)

end Go.Proofs.Ytdjpacfcimifdaa.lawExactEntriesAdd
