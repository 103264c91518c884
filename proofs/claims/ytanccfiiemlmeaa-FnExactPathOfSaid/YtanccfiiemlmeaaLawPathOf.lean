/- FnExactPathOf returns true for every list of texts. No condition. -/
import Derived.Test.YtanccfiiemlmeaaLaw
import Derived.Test.YtanccfiiemlmeaaPathImpl
namespace Go.Proofs.Ytanccfiiemlmeaa.lawExactPathOf
open Go.ChangeShapes Go.WideShapes Go.ChangeAt Go.RowKit
set_option linter.unusedVariables false
set_option linter.unusedSimpArgs false

set_option maxHeartbeats 1000000 in
theorem walk (w : World) (A : Option Addr) (cap : Nat) (xs : List ByteArray) (h : RdT encS 1 w A xs) (hc : xs.length ≤ cap) (hm : cap ≤ 9223372036854775807) (hz : ∀ x ∈ xs, x.size ≤ 9223372036854775807) :
    Calls Try.prog 3 #[.slice A xs.length cap] w fun e w' => e = .returned (.bool true) ∧ Below w.heap.size w w' := by
  have HR := Lib.hid h
  have HZ := Lib.hid hz
  clear h hz
  go_enter Try.func3, Try.ntmps3
  go_wp2_with fail
  refine Calls.mono (szStringS_any w A cap xs _ HR.out hc hm HZ.out (by omega) (by omega)) ?_
  rintro e w1 ⟨r, rfl, hr0, hr1, hr2, hB1⟩
  have HB1 := Lib.hid hB1
  clear hB1
  by_cases hneg : r < 0
  · go_wp2_with fail
    go_ret
    exact ⟨rfl, HB1.out⟩
  have hn : xs.length ≤ 1048576 := by have := hr2 (by omega); omega
  clear hr2
  have HE := Lib.hid (show ∀ w A cap, RdT encS 1 w A xs → xs.length ≤ cap → cap ≤ 9223372036854775807 → _ from fun w A cap h hc hm => specPathOf_any w A cap xs h hc hm HZ.out)
  have HI := Lib.hid (show ∀ w A cap, RdT encS 1 w A xs → xs.length ≤ cap → cap ≤ 9223372036854775807 → _ from fun w A cap h hc hm => pathOf_any w A cap xs h hc hm HZ.out)
  generalize pathOfB xs = B at HE HI
  generalize pathOfT xs = t at HE HI
  have q1 : (t.toList != t.toList) = false := by simp
  -- the reference
  go_wp2_with fail
  refine Calls.mono (toStringS_any _ A cap xs (HR.out.below HB1.out) hc hn) ?_
  rintro e w2 ⟨v, rfl, hO, hB2⟩
  obtain ⟨A2, c2, rfl, hl2, hc2, hf2, hrd2⟩ := hO.form
  have HR2 := Lib.hid hrd2
  have HB2 := Lib.hid (below_below HB1.out hB2)
  clear hO hf2 hrd2 hB2 HB1
  go_wp2_with fail
  refine Calls.mono (HE.out _ A2 c2 HR2.out hl2 hc2) ?_
  rintro e w3 ⟨rfl, hB3⟩
  have HB3 := Lib.hid (below_below HB2.out hB3)
  clear hB3 HB2 HR2
  -- the program's
  go_wp2_with fail
  refine Calls.mono (toStringS_any _ A cap xs (HR.out.below HB3.out) hc hn) ?_
  rintro e w4 ⟨v, rfl, hO, hB4⟩
  obtain ⟨A4, c4, rfl, hl4, hc4, hf4, hrd4⟩ := hO.form
  have HR4 := Lib.hid hrd4
  have HB4 := Lib.hid (below_below HB3.out hB4)
  clear hO hf4 hrd4 hB4
  go_wp2_with fail
  refine Calls.mono (HI.out _ A4 c4 HR4.out hl4 hc4) ?_
  rintro e w5 ⟨rfl, hB5⟩
  have HR5 := Lib.hid (HR4.out.below hB5)
  have HB5 := Lib.hid (below_below HB4.out hB5)
  clear hB5 HR4
  cases B
  all_goals
    go_wp2_with fail
    refine Calls.mono (toStringS_any _ A cap xs (HR.out.below HB5.out) hc hn) ?_
    rintro e w6 ⟨v, rfl, hO, hB⟩
    obtain ⟨A6, c6, rfl, hl6, hc6, hf6, hrd6⟩ := hO.form
    have HR6 := Lib.hid hrd6
    have HB6 := Lib.hid (below_below HB5.out hB)
    have HR5 := Lib.hid (HR5.out.below hB)
    clear hO hf6 hrd6 hB
    go_wp2_with fail
    refine Calls.mono (eqStringS_true _ A4 A6 c4 c6 xs HR5.out HR6.out hl4 hl6 hc4) ?_
    rintro e w7 ⟨rfl, hB⟩
    have HB7 := Lib.hid (below_below HB6.out hB)
    clear hB
    go_wp2_with fail
    go_ret
    exact ⟨rfl, HB7.out⟩

set_option maxRecDepth 100000 in
theorem lifted (os : Os) (started : os.Started) (H : Type) (enc : TypeId × Value → H) :
    ReturnsInHanded {} Try.checked os 3 .any (Rows.fnExactPathOfSpec.pre6 enc Try.prog Try.f3 Rows.fnExactPathOfRow.domain false) (Rows.fnExactPathOfSpec.post enc Try.prog Try.f3 false true false false) := by
  refine returnsInHanded_of_change (C := Try.checked) own started (by kernel_rfl) Try.func3
    (ChangeSpec.witness6 (enc := enc) (C := Try.checked) false ⟨#[], #[.slice none 0 0], []⟩ 8 (by kernel_rfl) (by kernel_rfl) (by kernel_rfl) (by kernel_rfl)) ?_
  intro W base args ds gs before hval0 hW hcnd _
  have hval : ∀ (j : Nat) t v, Try.f3.params[j]? = some t → args[j]? = some v → Value.okWide Try.prog W .any base t v := hval0
  have hW' := hW
  obtain ⟨p, q, hA, hV, rfl, hfz, hnd⟩ := hW
  obtain ⟨rfl, rfl⟩ := trodVars_none hV
  have hA0 : DataW.TrodAll enc Try.prog W 0 (fun _ => true) true Try.f3.params.toList args.toList ds p := hA
  rw [Try.params3] at hA0 hval
  obtain ⟨v0, vs0, d0, ds0, p0, q0, hargs, rfl, rfl, h0, r0⟩ := trodAll_cons hA0
  obtain ⟨rfl, rfl, rfl⟩ := trodAll_nil r0
  obtain rfl : args = #[v0] := by cases args; simp_all
  obtain ⟨xsA, xsc, xs, rfl, xshc, xshm, xsr, xsb⟩ := open_strs (hval 0 22 v0 rfl rfl) h0
  refine (walk W xsA xsc xs xsr xshc xshm xsb).mono fun e W' ⟨he, bel⟩ => ?_
  subst he
  exact ⟨_, rfl, law_post rfl (by kernel_rfl) (params_ok (by kernel_rfl)) hW' rfl rfl rfl bel⟩

theorem proved : Rows.FnExactPathOfSaid :=
  OpenClaim.holds_of_wide 3 Try.f3 rfl rfl rfl rfl rfl rfl rfl ⟨rfl, rfl, rfl, rfl, rfl⟩ rfl rfl rfl rfl rfl (by kernel_rfl) Try.func3 (by kernel_rfl)
    (of_decide_eq_true (by kernel_rfl)) (by unfold Func.isWrapper; first | (rw [if_pos (by decide +kernel)]; kernel_rfl) | (rw [if_neg (by decide +kernel)]; exact ⟨rfl, rfl⟩))
    (fun os started H enc _ => lifted os started H enc)

end Go.Proofs.Ytanccfiiemlmeaa.lawExactPathOf
