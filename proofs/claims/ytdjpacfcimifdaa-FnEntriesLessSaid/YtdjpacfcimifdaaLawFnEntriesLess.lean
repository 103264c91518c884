/- FnEntriesLess returns true for every code. No condition. -/
import Derived.Test.YtdjpacfcimifdaaDrawEnts2
import Derived.Test.YtdjpacfcimifdaaEntSet
import Derived.Test.YtdjpacfcimifdaaEntApart
import Derived.Test.YtdjpacfcimifdaaLaw
namespace Go.Proofs.Ytdjpacfcimifdaa.lawFnEntriesLess
open Go.ChangeShapes Go.WideShapes Go.ChangeAt Go.RowKit Go.Sort
set_option linter.unusedVariables false
set_option linter.unusedSimpArgs false

set_option maxHeartbeats 2000000 in
theorem walk (w : World) (A : Option Addr) (cap : Nat) (zs : List Int) (h : RdT (encI .u8) 1 w A zs) (hb : ∀ z ∈ zs, 0 ≤ z ∧ z ≤ 255) (hc : zs.length ≤ cap) (hm : cap ≤ 9223372036854775807) :
    Calls Try.prog 7 #[.slice A zs.length cap] w fun e w' => e = .returned (.bool true) ∧ Below w.heap.size w w' := by
  have HD := Lib.hid (drawEntriesLess_any w A cap zs h hb hc hm)
  clear h hb
  generalize zs.length = n at HD hc ⊢
  by_cases hbig : 1048576 < n
  · clear HD
    go_enter Try.func7, Try.ntmps7
    go_wp2
    go_ret
    exact ⟨rfl, Below.refl _ _⟩

  go_enter Try.func7, Try.ntmps7
  go_wp2_with fail
  refine Calls.mono HD.out ?_
  rintro e w1 ⟨v, es, nm, rfl, hO, hln, hz, hs, hB⟩
  obtain ⟨A1, c1, rfl, hc1, hm1, _, hrd⟩ := hO.form
  have HR1 := Lib.hid hrd
  have HZ := Lib.hid (show ∀ e ∈ es, e.name.size ≤ 9223372036854775807 from fun e he => by have := hz e he; omega)
  have HB1 := Lib.hid hB
  clear hB HD hO hrd hz
  have HI := Lib.hid (fun w h => less_any w A1 c1 es nm h hc1 hm1 (by omega) HZ.out)
  have HS := Lib.hid (fun w h => specLess_any w A1 c1 es nm h hc1 hm1 (by omega) HZ.out)
  cases hx : lessB es nm
  · rw [hx] at HI HS
    generalize lessL es nm = m at *
    go_wp2_with fail
    refine Calls.mono (HI.out w1 HR1.out) ?_
    rintro e w2 ⟨v2, rfl, hO2, hB⟩
    obtain ⟨A2, c2, rfl, hc2, hm2, _, hrd2⟩ := hO2.form
    have M2 := Lib.hid hrd2
    have R2 := Lib.hid (HR1.out.below hB)
    have HB2 := Lib.hid (below_below HB1.out hB)
    clear hB hO2 hrd2
    go_wp2_with fail
    refine Calls.mono (HS.out w2 R2.out) ?_
    rintro e w3 ⟨v3, rfl, hO3, hB⟩
    obtain ⟨A3, c3, rfl, hc3, hm3, _, hrd3⟩ := hO3.form
    have N3 := Lib.hid hrd3
    have M3 := Lib.hid (M2.out.below hB)
    have HB3 := Lib.hid (below_below HB2.out hB)
    clear hB hO3 hrd3
    go_wp2_with fail
    refine Calls.mono (pfEntries_true w3 A2 A3 c2 c3 m M3.out N3.out hc2 hc3 hm2) ?_
    rintro e w4 ⟨rfl, hB⟩
    have HB4 := Lib.hid (below_below HB3.out hB)
    clear hB
    go_wp2_with fail
    go_ret
    exact ⟨rfl, HB4.out⟩
  · obtain ⟨j1, j2, j3⟩ := less_law hx
    have hz1 : ∀ e ∈ lessL es nm, e.name.size ≤ 9223372036854775807 := fun e he => HZ.out e (((less_true hx).2.1 e).1 he).1
    have HF := Lib.hid (fun nm' w A c h hc hm => find_any w A c (lessL es nm) nm' h hc hm hz1)
    have J1 := Lib.hid j1
    have J2 := Lib.hid j2
    rw [hx] at HI HS
    clear hz1 hx j1 j2
    generalize lessL es nm = m at *
    go_wp2_with fail
    refine Calls.mono (HI.out w1 HR1.out) ?_
    rintro e w2 ⟨v2, rfl, hO2, hB⟩
    obtain ⟨A2, c2, rfl, hc2, hm2, _, hrd2⟩ := hO2.form
    have M2 := Lib.hid hrd2
    have R2 := Lib.hid (HR1.out.below hB)
    have HB2 := Lib.hid (below_below HB1.out hB)
    clear hB hO2 hrd2
    go_wp2_with fail
    refine Calls.mono (HS.out w2 R2.out) ?_
    rintro e w3 ⟨v3, rfl, hO3, hB⟩
    obtain ⟨A3, c3, rfl, hc3, hm3, _, hrd3⟩ := hO3.form
    have N3 := Lib.hid hrd3
    have M3 := Lib.hid (M2.out.below hB)
    have R3 := Lib.hid (R2.out.below hB)
    have HB3 := Lib.hid (below_below HB2.out hB)
    clear hB hO3 hrd3
    go_wp2_with fail
    refine Calls.mono (pfEntries_true w3 A2 A3 c2 c3 m M3.out N3.out hc2 hc3 hm2) ?_
    rintro e w4 ⟨rfl, hB⟩
    have M4 := Lib.hid (M3.out.below hB)
    have R4 := Lib.hid (R3.out.below hB)
    have HB4 := Lib.hid (below_below HB3.out hB)
    clear hB M3 R3 M2 R2 N3 HI HS
    go_wp2_with fail
    go_loopw [10] (fun i wr => ∃ k : Nat, k ≤ es.length ∧ i = .int .i64 k ∧ Hid (Below w4.heap.size w4 wr)) (fun i _ => es.length - (intOf i).toNat)
    case atStart => exact ⟨0, Nat.zero_le _, rfl, Lib.hid (Below.refl _ _)⟩
    case round =>
      obtain ⟨k, hk, rfl, HB⟩ := hrel
      have M5 := Lib.hid (M4.out.below HB.out)
      have R5 := Lib.hid (R4.out.below HB.out)
      by_cases hlt : k < es.length
      · obtain ⟨b, off, en, id, rfl, hb, he, c0, d0⟩ := R5.out.entry hlt
        by_cases hq : (en.toList == nm.toList) = true
        · clear he
          go_wp2_with fail
          refine wp_quiet_b (by kernel_rfl) (by kernel_rfl) (fun hgrow => ?_)
          repeat (go_big_quiet_step (fail))
          refine wpQuiet_nil ?_
          intro w2 hww2
          replace hww2 := below_of_regrown hww2
          clear hgrow
          go_wp2_with fail
          go_roundw
          case rel => exact ⟨k + 1, by omega, by go_num, Lib.hid (HB.out.trans (hww2.mono HB.out.size))⟩
          case measure => simp [intOf]; omega
        · have hq' : (en.toList == nm.toList) = false := by simpa using hq
          have e1 : findOf m en = id := J1.out ⟨en, id⟩ (List.mem_of_getElem? he) (fun h => hq ((eqL_iff _ _).2 h))
          have HF2 := Lib.hid (fun w h => HF.out en w A2 c2 h hc2 hm2)
          rw [e1] at HF2
          clear he hq e1
          have e2 : (id != id) = false := by simp
          go_wp2_with fail
          refine wp_quiet_b (by kernel_rfl) (by kernel_rfl) (fun hgrow => ?_)
          repeat (go_big_quiet_step ((go_at_call 20; exact quiet_b (HF2.out _ (M5.out.below (below_regrown _ _ _))))))
          refine wpQuiet_nil ?_
          intro w2 hww2
          replace hww2 := below_of_regrown hww2
          clear hgrow
          go_wp2_with fail
          go_roundw
          case rel => exact ⟨k + 1, by omega, by go_num, Lib.hid (HB.out.trans (hww2.mono HB.out.size))⟩
          case measure => simp [intOf]; omega
      · obtain rfl : k = es.length := by omega
        have HF2 := Lib.hid (fun w h => HF.out nm w A2 c2 h hc2 hm2)
        rw [J2.out] at HF2
        have e2 : ((m.length : Int) == (es.length : Int) - 1) = true := by simp; omega
        have k2 : IntKind.i64.wrap ((es.length : Int) - 1) = (es.length : Int) - 1 := IntWalk.i64_in _ (by omega)
        go_wp2_with fail
        refine Calls.mono (HF2.out wr M5.out) ?_
        rintro e w6 ⟨rfl, hB⟩
        have HB6 := Lib.hid (below_below (below_below HB4.out HB.out) hB)
        clear hB
        go_wp2_with fail
        go_ret
        exact ⟨rfl, HB6.out⟩

set_option maxRecDepth 100000 in
theorem lifted (os : Os) (started : os.Started) (H : Type) (enc : TypeId × Value → H) :
    ReturnsInHanded {} Try.checked os 7 .any (Rows.fnEntriesLessSpec.pre6 enc Try.prog Try.f7 Rows.fnEntriesLessRow.domain false) (Rows.fnEntriesLessSpec.post enc Try.prog Try.f7 false true false false) := by
  refine returnsInHanded_of_change (C := Try.checked) own started (by kernel_rfl) Try.func7
    (ChangeSpec.witness6 (enc := enc) (C := Try.checked) false ⟨#[], #[.slice none 0 0], []⟩ 8 (by kernel_rfl) (by kernel_rfl) (by kernel_rfl) (by kernel_rfl)) ?_
  intro W base args ds gs before hval0 hW hcnd _
  have hval : ∀ (j : Nat) t v, Try.f7.params[j]? = some t → args[j]? = some v → Value.okWide Try.prog W .any base t v := hval0
  have hW' := hW
  obtain ⟨p, q, hA, hV, rfl, hfz, hnd⟩ := hW
  obtain ⟨rfl, rfl⟩ := trodVars_none hV
  have hA0 : DataW.TrodAll enc Try.prog W 0 (fun _ => true) true Try.f7.params.toList args.toList ds p := hA
  rw [Try.params7] at hA0 hval
  obtain ⟨v0, vs0, d0, ds0, p0, q0, hargs, rfl, rfl, h0, r0⟩ := trodAll_cons hA0
  obtain ⟨rfl, rfl, rfl⟩ := trodAll_nil r0
  obtain rfl : args = #[v0] := by cases args; simp_all
  obtain ⟨cA, cc, c, rfl, chc, chm, cr, cb⟩ := open_code (hval 0 35 v0 rfl rfl) h0
  refine (walk W cA cc c cr cb chc chm).mono fun e W' ⟨he, bel⟩ => ?_
  subst he
  exact ⟨_, rfl, law_post rfl (by kernel_rfl) (params_ok (by kernel_rfl)) hW' rfl rfl rfl bel⟩

theorem proved : Rows.FnEntriesLessSaid :=
  OpenClaim.holds_of_wide 7 Try.f7 rfl rfl rfl rfl rfl rfl rfl ⟨rfl, rfl, rfl, rfl, rfl⟩ rfl rfl rfl rfl rfl (by kernel_rfl) Try.func7 (by kernel_rfl)
    (of_decide_eq_true (by kernel_rfl)) (by unfold Func.isWrapper; first | (rw [if_pos (by decide +kernel)]; kernel_rfl) | (rw [if_neg (by decide +kernel)]; exact ⟨rfl, rfl⟩))
    (fun os started H enc _ => lifted os started H enc)

end Go.Proofs.Ytdjpacfcimifdaa.lawFnEntriesLess
