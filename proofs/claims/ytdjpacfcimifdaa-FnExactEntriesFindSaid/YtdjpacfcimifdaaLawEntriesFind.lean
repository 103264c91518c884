/- FnExactEntriesFind returns true for every list and every name. No condition. -/
import Derived.Test.YtdjpacfcimifdaaEntHelp
import Derived.Test.YtdjpacfcimifdaaEntFind
import Derived.Test.YtdjpacfcimifdaaLaw
namespace Go.Proofs.Ytdjpacfcimifdaa.lawExactEntriesFind
open Go.ChangeShapes Go.WideShapes Go.ChangeAt Go.RowKit
set_option linter.unusedVariables false

theorem walk (w : World) (A : Option Addr) (cap : Nat) (es : List Ent) (nm : ByteArray) (h : RdT encE 2 w A es) (hc : es.length ≤ cap) (hm : cap ≤ 9223372036854775807) (hz : ∀ e ∈ es, e.name.size ≤ 9223372036854775807) :
    Calls Try.prog 5 #[.slice A es.length cap, .string nm] w fun e w' => e = .returned (.bool true) ∧ Below w.heap.size w w' := by
  have HR := Lib.hid h
  have HZ := Lib.hid hz
  clear h hz
  by_cases hbig : 1048576 < nm.size
  · go_enter Try.func5, Try.ntmps5
    go_wp2
    go_ret
    exact ⟨rfl, Below.refl _ _⟩
  go_enter Try.func5, Try.ntmps5
  go_wp2_with fail
  refine Calls.mono (szEntryS_any w A cap es _ HR.out hc hm HZ.out (by omega) (by omega)) ?_
  rintro e w1 ⟨r, rfl, hr0, hr1, hr2, hB1⟩
  have HB1 := Lib.hid hB1
  clear hB1
  by_cases hneg : r < 0
  · go_wp2_with fail
    go_ret
    exact ⟨rfl, HB1.out⟩
  · have hn : es.length ≤ 1048576 := by have := hr2 (by omega); omega
    clear hr2
    have HE := Lib.hid (show ∀ w A cap, RdT encE 2 w A es → es.length ≤ cap → cap ≤ 9223372036854775807 → _ from fun w A cap h hc hm => specFind_any w A cap es nm h hc hm HZ.out)
    have HI := Lib.hid (show ∀ w A cap, RdT encE 2 w A es → es.length ≤ cap → cap ≤ 9223372036854775807 → _ from fun w A cap h hc hm => find_any w A cap es nm h hc hm HZ.out)
    generalize findOf es nm = B at HE HI
    go_wp2_with fail
    refine Calls.mono (toEntryS_any _ A cap es (HR.out.below HB1.out) hc hn) ?_
    rintro e w2 ⟨v, rfl, hO, hB2⟩
    obtain ⟨A2, c2, rfl, hl2, hc2, hf2, hrd2⟩ := hO.form
    have HR2 := Lib.hid hrd2
    have HB2 := Lib.hid hB2
    clear hO hf2 hrd2 hB2
    go_wp2_with fail
    refine Calls.mono (HE.out _ A2 c2 HR2.out hl2 hc2) ?_
    rintro e w3 ⟨rfl, hB3⟩
    have HB3 := Lib.hid hB3
    clear hB3
    go_wp2_with fail
    have HR3 := Lib.hid (((HR.out.below HB1.out).below HB2.out).below HB3.out)
    refine Calls.mono (toEntryS_any _ A cap es HR3.out hc hn) ?_
    rintro e w4 ⟨v, rfl, hO, hB4⟩
    obtain ⟨A4, c4, rfl, hl4, hc4, hf4, hrd4⟩ := hO.form
    have HR4 := Lib.hid hrd4
    have HB4 := Lib.hid hB4
    clear hO hf4 hrd4 hB4
    go_wp2_with fail
    refine Calls.mono (HI.out _ A4 c4 HR4.out hl4 hc4) ?_
    rintro e w5 ⟨rfl, hB5⟩
    have HB5 := Lib.hid hB5
    clear hB5
    go_wp2_with fail
    have HR5 := Lib.hid ((HR3.out.below HB4.out).below HB5.out)
    refine Calls.mono (toEntryS_any _ A cap es HR5.out hc hn) ?_
    rintro e w6 ⟨v, rfl, hO, hB6⟩
    obtain ⟨A6, c6, rfl, hl6, hc6, hf6, hrd6⟩ := hO.form
    have HR6 := Lib.hid hrd6
    have HB6 := Lib.hid hB6
    clear hO hf6 hrd6 hB6
    go_wp2_with fail
    refine Calls.mono (eqEntryS_true _ A4 A6 c4 c6 es ((HR4.out.below HB5.out).below HB6.out) HR6.out hl4 hl6 hc4) ?_
    rintro e w7 ⟨rfl, hB7⟩
    go_wp2_with fail
    go_ret
    refine ⟨rfl, ?_⟩
    have b1 := HB1.out
    have b2 := HB2.out
    have b3 := HB3.out
    have b4 := HB4.out
    have b5 := HB5.out
    have b6 := HB6.out
    (repeat (first | assumption | exact Below.refl _ _ | refine below_alloc ?_ _ | refine Below.drew ?_ | refine below_drewN ?_ _ | refine below_set ?_ (by first | exact Nat.le_refl _ | omega | (simp; done) | (simp; omega)) _ | refine below_kp ?_ (by assumption) (by simp) | refine below_below ?_ (by assumption)))

set_option maxRecDepth 100000 in
theorem lifted (os : Os) (started : os.Started) (H : Type) (enc : TypeId × Value → H) :
    ReturnsInHanded {} Try.checked os 5 .any (Rows.fnExactEntriesFindSpec.pre6 enc Try.prog Try.f5 Rows.fnExactEntriesFindRow.domain false) (Rows.fnExactEntriesFindSpec.post enc Try.prog Try.f5 false true false false) := by
  refine returnsInHanded_of_change (C := Try.checked) own started (by kernel_rfl) Try.func5
    (ChangeSpec.witness6 (enc := enc) (C := Try.checked) false ⟨#[], #[.slice none 0 0, .string ⟨#[]⟩], []⟩ 8 (by kernel_rfl) (by kernel_rfl) (by kernel_rfl) (by kernel_rfl)) ?_
  intro W base args ds gs before hval0 hW hcnd _
  have hval : ∀ (j : Nat) t v, Try.f5.params[j]? = some t → args[j]? = some v → Value.okWide Try.prog W .any base t v := hval0
  have hW' := hW
  obtain ⟨p, q, hA, hV, rfl, hfz, hnd⟩ := hW
  obtain ⟨rfl, rfl⟩ := trodVars_none hV
  have hA0 : DataW.TrodAll enc Try.prog W 0 (fun _ => true) true Try.f5.params.toList args.toList ds p := hA
  rw [Try.params5] at hA0 hval
  obtain ⟨v0, vs0, d0, ds0, p0, q0, hargs, rfl, rfl, h0, r0⟩ := trodAll_cons hA0
  obtain ⟨v1, vs1, d1, ds1, p1, q1, rfl, rfl, rfl, h1, r1⟩ := trodAll_cons r0
  obtain ⟨rfl, rfl, rfl⟩ := trodAll_nil r1
  obtain rfl : args = #[v0, v1] := by cases args; simp_all
  obtain ⟨esA, esc, es, rfl, eshc, eshm, esr, esb⟩ := open_entries (hval 0 23 v0 rfl rfl) h0
  obtain ⟨nm, rfl, _, _, hnm0⟩ := Go.ChangeMaps.open_string Try.underlying9 (hval 1 9 v1 rfl rfl) h1
  have hnm : nm.size ≤ 9223372036854775807 := by unfold maxLen at hnm0; omega
  refine (walk W esA esc es nm esr eshc eshm esb).mono fun e W' ⟨he, bel⟩ => ?_
  subst he
  exact ⟨_, rfl, law_post rfl (by kernel_rfl) (params_ok (by kernel_rfl)) hW' rfl rfl rfl bel⟩

theorem proved : Rows.FnExactEntriesFindSaid :=
  OpenClaim.holds_of_wide 5 Try.f5 rfl rfl rfl rfl rfl rfl rfl ⟨rfl, rfl, rfl, rfl, rfl⟩ rfl rfl rfl rfl rfl (by kernel_rfl) Try.func5 (by kernel_rfl)
    (of_decide_eq_true (by kernel_rfl)) (by unfold Func.isWrapper; first | (rw [if_pos (by decide +kernel)]; kernel_rfl) | (rw [if_neg (by decide +kernel)]; exact ⟨rfl, rfl⟩))
    (fun os started H enc _ => lifted os started H enc)

end Go.Proofs.Ytdjpacfcimifdaa.lawExactEntriesFind
