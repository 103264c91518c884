/- FnEntriesOrder returns true for every two codes. No condition. -/
import Derived.Test.YtmbjioboepbjnaaDrawEnts3
import Derived.Test.YtmbjioboepbjnaaEntSet
import Derived.Test.YtmbjioboepbjnaaEntApart
import Derived.Test.YtmbjioboepbjnaaLaw
namespace Go.Proofs.Ytmbjioboepbjnaa.lawFnEntriesOrder
open Go.ChangeShapes Go.WideShapes Go.ChangeAt Go.RowKit Go.Sort
set_option linter.unusedVariables false
set_option linter.unusedSimpArgs false

theorem add_each {es : List Ent} {x : Ent} (hz : ∀ e ∈ es, e.name.size ≤ 9223372036854775807) (hx : x.name.size ≤ 9223372036854775807) : (∀ e ∈ addL es x, e.name.size ≤ 9223372036854775807) ∧ (addL es x).length ≤ es.length + 1 := by
  cases h : addB es x
  · rw [add_bad h]
    exact ⟨(fun e he => by cases he), by simp⟩
  · obtain ⟨a1, a2, a3⟩ := add_true h
    refine ⟨fun e he => ?_, by omega⟩
    rcases (a2 e).1 he with rfl | he
    · exact hx
    · exact hz e he

set_option maxHeartbeats 4000000 in
theorem walk (w : World) (A A' : Option Addr) (cap cap' : Nat) (zs ys : List Int) (h : RdT (encI .u8) 1 w A zs) (h' : RdT (encI .u8) 1 w A' ys) (hb : ∀ z ∈ zs, 0 ≤ z ∧ z ≤ 255) (hb' : ∀ z ∈ ys, 0 ≤ z ∧ z ≤ 255) (hc : zs.length ≤ cap) (hc' : ys.length ≤ cap') (hm : cap ≤ 9223372036854775807) (hm' : cap' ≤ 9223372036854775807) :
    Calls Try.prog 3 #[.slice A zs.length cap, .slice A' ys.length cap'] w fun e w' => e = .returned (.bool true) ∧ Below w.heap.size w w' := by
  have HD := Lib.hid (drawEntriesAdd_any w A cap zs h hb hc hm)
  have HD' := Lib.hid (fun w1 (hB : Below w.heap.size w w1) => drawEntriesAdd_any w1 A' cap' ys (h'.below hB) hb' hc' hm')
  clear h hb h' hb'
  generalize zs.length = n at HD hc ⊢
  generalize ys.length = n' at HD' hc' ⊢
  by_cases hbig : 1048576 < n
  · clear HD HD'
    go_enter Try.func3, Try.ntmps3
    go_wp2
    go_ret
    exact ⟨rfl, Below.refl _ _⟩
  by_cases hbig' : 1048576 < n'
  · clear HD HD'
    go_enter Try.func3, Try.ntmps3
    go_wp2
    go_ret
    exact ⟨rfl, Below.refl _ _⟩

  go_enter Try.func3, Try.ntmps3
  go_wp2_with fail
  refine Calls.mono HD.out ?_
  rintro e w1 ⟨v, es, nm, id, rfl, hO, hln, hz, hs, hB⟩
  obtain ⟨A1, c1, rfl, hc1, hm1, _, hrd⟩ := hO.form
  have hspot := own_spot hO
  have R1 := Lib.hid hrd
  have HZ := Lib.hid (show ∀ e ∈ es, e.name.size ≤ 9223372036854775807 from fun e he => by have := hz e he; omega)
  have HB1 := Lib.hid hB
  clear hB HD hO hrd hz
  go_wp2_with fail
  refine Calls.mono (HD'.out w1 HB1.out) ?_
  rintro e w2 ⟨v', es', nm', id', rfl, hO', _, _, hs', hB⟩
  obtain ⟨Ax, cx, rfl, _, _, _, _⟩ := hO'.form
  have R2 := Lib.hid (R1.out.below hB)
  have HB2 := Lib.hid (below_below HB1.out hB)
  clear hB HD' hO'
  have za := add_each HZ.out (x := ⟨nm, id⟩) (by dsimp only; omega)
  have zb := add_each HZ.out (x := ⟨nm', id'⟩) (by dsimp only; omega)
  have za1 := za.2
  have zb1 := zb.2
  have HA := Lib.hid (fun w h => add_any w A1 c1 es ⟨nm, id⟩ h hc1 hm1 (by omega) HZ.out (by dsimp only; omega) hspot)
  have HBb := Lib.hid (fun w h => add_any w A1 c1 es ⟨nm', id'⟩ h hc1 hm1 (by omega) HZ.out (by dsimp only; omega) hspot)
  have HAB := Lib.hid (fun w A c h hc hm hA => add_any w A c (addL es ⟨nm, id⟩) ⟨nm', id'⟩ h hc hm (by omega) za.1 (by dsimp only; omega) hA)
  have HBA := Lib.hid (fun w A c h hc hm hA => add_any w A c (addL es ⟨nm', id'⟩) ⟨nm, id⟩ h hc hm (by omega) zb.1 (by dsimp only; omega) hA)
  have HS := Lib.hid (fun w h => specAdd_any w A1 c1 es ⟨nm, id⟩ h hc1 hm1 (by omega) HZ.out (by dsimp only; omega))
  have HO := Lib.hid (order_law (es := es) (a := ⟨nm, id⟩) (b := ⟨nm', id'⟩))
  dsimp only at HA HBb HAB HBA HS
  clear za zb za1 zb1
  generalize addB (addL es ⟨nm, id⟩) ⟨nm', id'⟩ = q at *
  generalize addL (addL es ⟨nm, id⟩) ⟨nm', id'⟩ = lq at *
  generalize addB (addL es ⟨nm', id'⟩) ⟨nm, id⟩ = s at *
  generalize addL (addL es ⟨nm', id'⟩) ⟨nm, id⟩ = ls at *
  generalize addB es ⟨nm, id⟩ = p at *
  generalize addL es ⟨nm, id⟩ = lp at *
  generalize addB es ⟨nm', id'⟩ = r at *
  generalize addL es ⟨nm', id'⟩ = lr at *
  cases p
  · clear HO
    go_wp2_with fail
    refine Calls.mono (HA.out w2 R2.out) ?_
    rintro e w3 ⟨v3, rfl, hO3, hB⟩
    obtain ⟨A3, c3, rfl, hc3, hm3, _, hrd3⟩ := hO3.form
    have hspot3 := own_spot hO3
    have P3 := Lib.hid hrd3
    have R3 := Lib.hid (R2.out.below hB)
    have HB3 := Lib.hid (below_below HB2.out hB)
    clear hB hO3 hrd3 R2
    go_wp2_with fail
    refine Calls.mono (HAB.out w3 A3 c3 P3.out hc3 hm3 hspot3) ?_
    rintro e w4 ⟨v4, rfl, hO4, hB⟩
    obtain ⟨A4, c4, rfl, hc4, hm4, _, hrd4⟩ := hO4.form
    have Q4 := Lib.hid hrd4
    have P4 := Lib.hid (P3.out.below hB)
    have R4 := Lib.hid (R3.out.below hB)
    have HB4 := Lib.hid (below_below HB3.out hB)
    clear hB hO4 hrd4 R3 P3
    go_wp2_with fail
    refine Calls.mono (HBb.out w4 R4.out) ?_
    rintro e w5 ⟨v5, rfl, hO5, hB⟩
    obtain ⟨A5, c5, rfl, hc5, hm5, _, hrd5⟩ := hO5.form
    have hspot5 := own_spot hO5
    have U5 := Lib.hid hrd5
    have Q5 := Lib.hid (Q4.out.below hB)
    have P5 := Lib.hid (P4.out.below hB)
    have R5 := Lib.hid (R4.out.below hB)
    have HB5 := Lib.hid (below_below HB4.out hB)
    clear hB hO5 hrd5 R4 P4 Q4
    go_wp2_with fail
    refine Calls.mono (HBA.out w5 A5 c5 U5.out hc5 hm5 hspot5) ?_
    rintro e w6 ⟨v6, rfl, hO6, hB⟩
    obtain ⟨A6, c6, rfl, hc6, hm6, _, hrd6⟩ := hO6.form
    have V6 := Lib.hid hrd6
    have Q6 := Lib.hid (Q5.out.below hB)
    have P6 := Lib.hid (P5.out.below hB)
    have R6 := Lib.hid (R5.out.below hB)
    have HB6 := Lib.hid (below_below HB5.out hB)
    clear hB hO6 hrd6 R5 P5 Q5 U5
    go_wp2_with fail
    refine Calls.mono (HS.out w6 R6.out) ?_
    rintro e w7 ⟨v7, rfl, hO7, hB⟩
    obtain ⟨A7, c7, rfl, hc7, hm7, _, hrd7⟩ := hO7.form
    have W7 := Lib.hid hrd7
    have V7 := Lib.hid (V6.out.below hB)
    have Q7 := Lib.hid (Q6.out.below hB)
    have P7 := Lib.hid (P6.out.below hB)
    have HB7 := Lib.hid (below_below HB6.out hB)
    clear hB hO7 hrd7 R6 P6 Q6 V6
    go_wp2_with fail
    refine Calls.mono (pfEntries_true w7 A3 A7 c3 c7 lp P7.out W7.out hc3 hc7 hm3) ?_
    rintro e w8 ⟨rfl, hB⟩
    have V8 := Lib.hid (V7.out.below hB)
    have Q8 := Lib.hid (Q7.out.below hB)
    have P8 := Lib.hid (P7.out.below hB)
    have W8 := Lib.hid (W7.out.below hB)
    have HB8 := Lib.hid (below_below HB7.out hB)
    clear hB V7 Q7 P7 W7
    go_wp2_with fail
    refine Calls.mono (pfEntries_true w8 A3 A7 c3 c7 lp P8.out W8.out hc3 hc7 hm3) ?_
    rintro e w9 ⟨rfl, hB⟩
    have HB9 := Lib.hid (below_below HB8.out hB)
    clear hB
    go_wp2_with fail
    go_ret
    exact ⟨rfl, HB9.out⟩
  · cases r
    · clear HO
      go_wp2_with fail
      refine Calls.mono (HA.out w2 R2.out) ?_
      rintro e w3 ⟨v3, rfl, hO3, hB⟩
      obtain ⟨A3, c3, rfl, hc3, hm3, _, hrd3⟩ := hO3.form
      have hspot3 := own_spot hO3
      have P3 := Lib.hid hrd3
      have R3 := Lib.hid (R2.out.below hB)
      have HB3 := Lib.hid (below_below HB2.out hB)
      clear hB hO3 hrd3 R2
      go_wp2_with fail
      refine Calls.mono (HAB.out w3 A3 c3 P3.out hc3 hm3 hspot3) ?_
      rintro e w4 ⟨v4, rfl, hO4, hB⟩
      obtain ⟨A4, c4, rfl, hc4, hm4, _, hrd4⟩ := hO4.form
      have Q4 := Lib.hid hrd4
      have P4 := Lib.hid (P3.out.below hB)
      have R4 := Lib.hid (R3.out.below hB)
      have HB4 := Lib.hid (below_below HB3.out hB)
      clear hB hO4 hrd4 R3 P3
      go_wp2_with fail
      refine Calls.mono (HBb.out w4 R4.out) ?_
      rintro e w5 ⟨v5, rfl, hO5, hB⟩
      obtain ⟨A5, c5, rfl, hc5, hm5, _, hrd5⟩ := hO5.form
      have hspot5 := own_spot hO5
      have U5 := Lib.hid hrd5
      have Q5 := Lib.hid (Q4.out.below hB)
      have P5 := Lib.hid (P4.out.below hB)
      have R5 := Lib.hid (R4.out.below hB)
      have HB5 := Lib.hid (below_below HB4.out hB)
      clear hB hO5 hrd5 R4 P4 Q4
      go_wp2_with fail
      refine Calls.mono (HBA.out w5 A5 c5 U5.out hc5 hm5 hspot5) ?_
      rintro e w6 ⟨v6, rfl, hO6, hB⟩
      obtain ⟨A6, c6, rfl, hc6, hm6, _, hrd6⟩ := hO6.form
      have V6 := Lib.hid hrd6
      have Q6 := Lib.hid (Q5.out.below hB)
      have P6 := Lib.hid (P5.out.below hB)
      have R6 := Lib.hid (R5.out.below hB)
      have HB6 := Lib.hid (below_below HB5.out hB)
      clear hB hO6 hrd6 R5 P5 Q5 U5
      go_wp2_with fail
      refine Calls.mono (HS.out w6 R6.out) ?_
      rintro e w7 ⟨v7, rfl, hO7, hB⟩
      obtain ⟨A7, c7, rfl, hc7, hm7, _, hrd7⟩ := hO7.form
      have W7 := Lib.hid hrd7
      have V7 := Lib.hid (V6.out.below hB)
      have Q7 := Lib.hid (Q6.out.below hB)
      have P7 := Lib.hid (P6.out.below hB)
      have HB7 := Lib.hid (below_below HB6.out hB)
      clear hB hO7 hrd7 R6 P6 Q6 V6
      go_wp2_with fail
      refine Calls.mono (pfEntries_true w7 A3 A7 c3 c7 lp P7.out W7.out hc3 hc7 hm3) ?_
      rintro e w8 ⟨rfl, hB⟩
      have V8 := Lib.hid (V7.out.below hB)
      have Q8 := Lib.hid (Q7.out.below hB)
      have P8 := Lib.hid (P7.out.below hB)
      have W8 := Lib.hid (W7.out.below hB)
      have HB8 := Lib.hid (below_below HB7.out hB)
      clear hB V7 Q7 P7 W7
      go_wp2_with fail
      refine Calls.mono (pfEntries_true w8 A3 A7 c3 c7 lp P8.out W8.out hc3 hc7 hm3) ?_
      rintro e w9 ⟨rfl, hB⟩
      have HB9 := Lib.hid (below_below HB8.out hB)
      clear hB
      go_wp2_with fail
      go_ret
      exact ⟨rfl, HB9.out⟩
    · obtain ⟨o1, o2⟩ := HO.out rfl rfl
      subst o1 o2
      clear HO
      have hqq : (q == q) = true := by simp
      go_wp2_with fail
      refine Calls.mono (HA.out w2 R2.out) ?_
      rintro e w3 ⟨v3, rfl, hO3, hB⟩
      obtain ⟨A3, c3, rfl, hc3, hm3, _, hrd3⟩ := hO3.form
      have hspot3 := own_spot hO3
      have P3 := Lib.hid hrd3
      have R3 := Lib.hid (R2.out.below hB)
      have HB3 := Lib.hid (below_below HB2.out hB)
      clear hB hO3 hrd3 R2
      go_wp2_with fail
      refine Calls.mono (HAB.out w3 A3 c3 P3.out hc3 hm3 hspot3) ?_
      rintro e w4 ⟨v4, rfl, hO4, hB⟩
      obtain ⟨A4, c4, rfl, hc4, hm4, _, hrd4⟩ := hO4.form
      have Q4 := Lib.hid hrd4
      have P4 := Lib.hid (P3.out.below hB)
      have R4 := Lib.hid (R3.out.below hB)
      have HB4 := Lib.hid (below_below HB3.out hB)
      clear hB hO4 hrd4 R3 P3
      go_wp2_with fail
      refine Calls.mono (HBb.out w4 R4.out) ?_
      rintro e w5 ⟨v5, rfl, hO5, hB⟩
      obtain ⟨A5, c5, rfl, hc5, hm5, _, hrd5⟩ := hO5.form
      have hspot5 := own_spot hO5
      have U5 := Lib.hid hrd5
      have Q5 := Lib.hid (Q4.out.below hB)
      have P5 := Lib.hid (P4.out.below hB)
      have R5 := Lib.hid (R4.out.below hB)
      have HB5 := Lib.hid (below_below HB4.out hB)
      clear hB hO5 hrd5 R4 P4 Q4
      go_wp2_with fail
      refine Calls.mono (HBA.out w5 A5 c5 U5.out hc5 hm5 hspot5) ?_
      rintro e w6 ⟨v6, rfl, hO6, hB⟩
      obtain ⟨A6, c6, rfl, hc6, hm6, _, hrd6⟩ := hO6.form
      have V6 := Lib.hid hrd6
      have Q6 := Lib.hid (Q5.out.below hB)
      have P6 := Lib.hid (P5.out.below hB)
      have R6 := Lib.hid (R5.out.below hB)
      have HB6 := Lib.hid (below_below HB5.out hB)
      clear hB hO6 hrd6 R5 P5 Q5 U5
      go_wp2_with fail
      refine Calls.mono (HS.out w6 R6.out) ?_
      rintro e w7 ⟨v7, rfl, hO7, hB⟩
      obtain ⟨A7, c7, rfl, hc7, hm7, _, hrd7⟩ := hO7.form
      have W7 := Lib.hid hrd7
      have V7 := Lib.hid (V6.out.below hB)
      have Q7 := Lib.hid (Q6.out.below hB)
      have P7 := Lib.hid (P6.out.below hB)
      have HB7 := Lib.hid (below_below HB6.out hB)
      clear hB hO7 hrd7 R6 P6 Q6 V6
      go_wp2_with fail
      refine Calls.mono (pfEntries_true w7 A3 A7 c3 c7 lp P7.out W7.out hc3 hc7 hm3) ?_
      rintro e w8 ⟨rfl, hB⟩
      have V8 := Lib.hid (V7.out.below hB)
      have Q8 := Lib.hid (Q7.out.below hB)
      have P8 := Lib.hid (P7.out.below hB)
      have W8 := Lib.hid (W7.out.below hB)
      have HB8 := Lib.hid (below_below HB7.out hB)
      clear hB V7 Q7 P7 W7
      go_wp2_with fail
      refine Calls.mono (pfEntries_true w8 A4 A6 c4 c6 lq Q8.out V8.out hc4 hc6 hm4) ?_
      rintro e w9 ⟨rfl, hB⟩
      have HB9 := Lib.hid (below_below HB8.out hB)
      clear hB
      go_wp2_with fail
      go_ret
      exact ⟨rfl, HB9.out⟩

set_option maxRecDepth 100000 in
theorem lifted (os : Os) (started : os.Started) (H : Type) (enc : TypeId × Value → H) :
    ReturnsInHanded {} Try.checked os 3 .any (Rows.fnEntriesOrderSpec.pre6 enc Try.prog Try.f3 Rows.fnEntriesOrderRow.domain false) (Rows.fnEntriesOrderSpec.post enc Try.prog Try.f3 false true false false) := by
  refine returnsInHanded_of_change (C := Try.checked) own started (by kernel_rfl) Try.func3
    (ChangeSpec.witness6 (enc := enc) (C := Try.checked) false ⟨#[], #[.slice none 0 0, .slice none 0 0], []⟩ 8 (by kernel_rfl) (by kernel_rfl) (by kernel_rfl) (by kernel_rfl)) ?_
  intro W base args ds gs before hval0 hW hcnd _
  have hval : ∀ (j : Nat) t v, Try.f3.params[j]? = some t → args[j]? = some v → Value.okWide Try.prog W .any base t v := hval0
  have hW' := hW
  obtain ⟨p, q, hA, hV, rfl, hfz, hnd⟩ := hW
  obtain ⟨rfl, rfl⟩ := trodVars_none hV
  have hA0 : DataW.TrodAll enc Try.prog W 0 (fun _ => true) true Try.f3.params.toList args.toList ds p := hA
  rw [Try.params3] at hA0 hval
  obtain ⟨v0, vs0, d0, ds0, p0, q0, hargs, rfl, rfl, h0, r0⟩ := trodAll_cons hA0
  obtain ⟨v1, vs1, d1, ds1, p1, q1, rfl, rfl, rfl, h1, r1⟩ := trodAll_cons r0
  obtain ⟨rfl, rfl, rfl⟩ := trodAll_nil r1
  obtain rfl : args = #[v0, v1] := by cases args; simp_all
  obtain ⟨cA, cc, c, rfl, chc, chm, cr, cb⟩ := open_code (hval 0 22 v0 rfl rfl) h0
  obtain ⟨dA, dc, d, rfl, dhc, dhm, dr, db⟩ := open_code (hval 1 22 v1 rfl rfl) h1
  refine (walk W cA dA cc dc c d cr dr cb db chc dhc chm dhm).mono fun e W' ⟨he, bel⟩ => ?_
  subst he
  exact ⟨_, rfl, law_post rfl (by kernel_rfl) (params_ok (by kernel_rfl)) hW' rfl rfl rfl bel⟩

theorem proved : Rows.FnEntriesOrderSaid :=
  OpenClaim.holds_of_wide 3 Try.f3 rfl rfl rfl rfl rfl rfl rfl ⟨rfl, rfl, rfl, rfl, rfl⟩ rfl rfl rfl rfl rfl (by kernel_rfl) Try.func3 (by kernel_rfl)
    (of_decide_eq_true (by kernel_rfl)) (by unfold Func.isWrapper; first | (rw [if_pos (by decide +kernel)]; kernel_rfl) | (rw [if_neg (by decide +kernel)]; exact ⟨rfl, rfl⟩))
    (fun os started H enc _ => lifted os started H enc)

end Go.Proofs.Ytmbjioboepbjnaa.lawFnEntriesOrder
