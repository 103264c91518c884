/- FnEntriesFind returns true for every code. No condition. -/
import Derived.Test.YtdjpacfcimifdaaDrawEnts2
import Derived.Test.YtdjpacfcimifdaaEntSet
import Derived.Test.YtdjpacfcimifdaaEntApart
import Derived.Test.YtdjpacfcimifdaaLaw
namespace Go.Proofs.Ytdjpacfcimifdaa.lawFnEntriesFind
open Go.ChangeShapes Go.WideShapes Go.ChangeAt Go.RowKit
set_option linter.unusedVariables false
set_option linter.unusedSimpArgs false

set_option maxHeartbeats 2000000 in
theorem walk (w : World) (A : Option Addr) (cap : Nat) (zs : List Int) (h : RdT (encI .u8) 1 w A zs) (hb : ∀ z ∈ zs, 0 ≤ z ∧ z ≤ 255) (hc : zs.length ≤ cap) (hm : cap ≤ 9223372036854775807) :
    Calls Try.prog 9 #[.slice A zs.length cap] w fun e w' => e = .returned (.bool true) ∧ Below w.heap.size w w' := by
  have HD := Lib.hid (drawEntriesFind_any w A cap zs h hb hc hm)
  clear h hb
  generalize zs.length = n at HD hc ⊢
  by_cases hbig : 1048576 < n
  · clear HD
    go_enter Try.func9, Try.ntmps9
    go_wp2
    go_ret
    exact ⟨rfl, Below.refl _ _⟩

  go_enter Try.func9, Try.ntmps9
  go_wp2_with fail
  refine Calls.mono HD.out ?_
  rintro e w1 ⟨v, es, nm, rfl, hO, hln, hz, hs, hB⟩
  obtain ⟨A1, c1, rfl, hc1, hm1, _, hrd⟩ := hO.form
  have hspot := own_spot hO
  have HR1 := Lib.hid hrd
  have HZ := Lib.hid (show ∀ e ∈ es, e.name.size ≤ 9223372036854775807 from fun e he => by have := hz e he; omega)
  have HB1 := Lib.hid hB
  clear hB HD hO hrd hz
  have HI := Lib.hid (fun w h => find_any w A1 c1 es nm h hc1 hm1 HZ.out)
  have HS := Lib.hid (fun w h => specFind_any w A1 c1 es nm h hc1 hm1 HZ.out)
  by_cases hx : 0 ≤ findOf es nm
  · obtain ⟨p1, p2, p3, p4⟩ := find_law hx
    have hz1 : ∀ e ∈ lessL es nm, e.name.size ≤ 9223372036854775807 := fun e he => HZ.out e (((less_true p1).2.1 e).1 he).1
    have hl1 : (lessL es nm).length ≤ 1048576 := by have := (less_true p1).2.2; omega
    have HL := Lib.hid (fun w h => less_any w A1 c1 es nm h hc1 hm1 (by omega) HZ.out)
    have HA := Lib.hid (fun w A c h hc hm hA => add_any w A c (lessL es nm) ⟨nm, findOf es nm⟩ h hc hm hl1 hz1 (by dsimp only; omega) hA)
    have HF := Lib.hid (fun w A c h hc hm => find_any w A c (lessL es nm) nm h hc hm hz1)
    dsimp only at HA
    rw [p1] at HL
    rw [p2, p3] at HA
    rw [p4] at HF
    clear p1 p2 p3 p4 hz1
    generalize lessL es nm = m at *
    generalize findOf es nm = r at *
    go_wp2_with fail
    refine Calls.mono (HI.out w1 HR1.out) ?_
    rintro e w2 ⟨rfl, hB⟩
    have R2 := Lib.hid (HR1.out.below hB)
    have HB2 := Lib.hid (below_below HB1.out hB)
    clear hB
    go_wp2_with fail
    refine Calls.mono (HS.out w2 R2.out) ?_
    rintro e w3 ⟨rfl, hB⟩
    have R3 := Lib.hid (R2.out.below hB)
    have HB3 := Lib.hid (below_below HB2.out hB)
    clear hB
    go_wp2_with fail
    refine Calls.mono (HL.out w3 R3.out) ?_
    rintro e w4 ⟨v4, rfl, hO4, hB⟩
    obtain ⟨A4, c4, rfl, hc4, hm4, _, hrd4⟩ := hO4.form
    have hspot4 := own_spot hO4
    have M4 := Lib.hid hrd4
    have R4 := Lib.hid (R3.out.below hB)
    have HB4 := Lib.hid (below_below HB3.out hB)
    clear hB hO4 hrd4
    go_wp2_with fail
    refine Calls.mono (HA.out w4 A4 c4 M4.out hc4 hm4 hspot4) ?_
    rintro e w5 ⟨v5, rfl, hO5, hB⟩
    obtain ⟨A5, c5, rfl, hc5, hm5, _, hrd5⟩ := hO5.form
    have N5 := Lib.hid hrd5
    have M5 := Lib.hid (M4.out.below hB)
    have R5 := Lib.hid (R4.out.below hB)
    have HB5 := Lib.hid (below_below HB4.out hB)
    clear hB hO5 hrd5
    go_wp2_with fail
    refine Calls.mono (pfEntries_true w5 A5 A1 c5 c1 es N5.out R5.out hc5 hc1 hm5) ?_
    rintro e w6 ⟨rfl, hB⟩
    have M6 := Lib.hid (M5.out.below hB)
    have HB6 := Lib.hid (below_below HB5.out hB)
    clear hB
    go_wp2_with fail
    refine Calls.mono (HF.out w6 A4 c4 M6.out hc4 hm4) ?_
    rintro e w7 ⟨rfl, hB⟩
    have HB7 := Lib.hid (below_below HB6.out hB)
    clear hB
    go_wp2_with fail
    go_ret
    exact ⟨rfl, HB7.out⟩
  · have hx' : decide (0 ≤ findOf es nm) = false := decide_eq_false hx
    clear hx
    generalize findOf es nm = r at *
    go_wp2_with fail
    refine Calls.mono (HI.out w1 HR1.out) ?_
    rintro e w2 ⟨rfl, hB⟩
    have R2 := Lib.hid (HR1.out.below hB)
    have HB2 := Lib.hid (below_below HB1.out hB)
    clear hB
    go_wp2_with fail
    refine Calls.mono (HS.out w2 R2.out) ?_
    rintro e w3 ⟨rfl, hB⟩
    have HB3 := Lib.hid (below_below HB2.out hB)
    clear hB
    go_wp2_with fail
    go_ret
    exact ⟨rfl, HB3.out⟩

set_option maxRecDepth 100000 in
theorem lifted (os : Os) (started : os.Started) (H : Type) (enc : TypeId × Value → H) :
    ReturnsInHanded {} Try.checked os 9 .any (Rows.fnEntriesFindSpec.pre6 enc Try.prog Try.f9 Rows.fnEntriesFindRow.domain false) (Rows.fnEntriesFindSpec.post enc Try.prog Try.f9 false true false false) := by
  refine returnsInHanded_of_change (C := Try.checked) own started (by kernel_rfl) Try.func9
    (ChangeSpec.witness6 (enc := enc) (C := Try.checked) false ⟨#[], #[.slice none 0 0], []⟩ 8 (by kernel_rfl) (by kernel_rfl) (by kernel_rfl) (by kernel_rfl)) ?_
  intro W base args ds gs before hval0 hW hcnd _
  have hval : ∀ (j : Nat) t v, Try.f9.params[j]? = some t → args[j]? = some v → Value.okWide Try.prog W .any base t v := hval0
  have hW' := hW
  obtain ⟨p, q, hA, hV, rfl, hfz, hnd⟩ := hW
  obtain ⟨rfl, rfl⟩ := trodVars_none hV
  have hA0 : DataW.TrodAll enc Try.prog W 0 (fun _ => true) true Try.f9.params.toList args.toList ds p := hA
  rw [Try.params9] at hA0 hval
  obtain ⟨v0, vs0, d0, ds0, p0, q0, hargs, rfl, rfl, h0, r0⟩ := trodAll_cons hA0
  obtain ⟨rfl, rfl, rfl⟩ := trodAll_nil r0
  obtain rfl : args = #[v0] := by cases args; simp_all
  obtain ⟨cA, cc, c, rfl, chc, chm, cr, cb⟩ := open_code (hval 0 35 v0 rfl rfl) h0
  refine (walk W cA cc c cr cb chc chm).mono fun e W' ⟨he, bel⟩ => ?_
  subst he
  exact ⟨_, rfl, law_post rfl (by kernel_rfl) (params_ok (by kernel_rfl)) hW' rfl rfl rfl bel⟩

theorem proved : Rows.FnEntriesFindSaid :=
  OpenClaim.holds_of_wide 9 Try.f9 rfl rfl rfl rfl rfl rfl rfl ⟨rfl, rfl, rfl, rfl, rfl⟩ rfl rfl rfl rfl rfl (by kernel_rfl) Try.func9 (by kernel_rfl)
    (of_decide_eq_true (by kernel_rfl)) (by unfold Func.isWrapper; first | (rw [if_pos (by decide +kernel)]; kernel_rfl) | (rw [if_neg (by decide +kernel)]; exact ⟨rfl, rfl⟩))
    (fun os started H enc _ => lifted os started H enc)

end Go.Proofs.Ytdjpacfcimifdaa.lawFnEntriesFind
