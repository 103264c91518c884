/- FnExactRaidRead returns true for all disks and every pointer. No condition. -/
import Derived.Test.YtamljoffmkcbnaaRaidReadS
import Derived.Test.YtamljoffmkcbnaaRaidOpen
import Derived.Test.YtamljoffmkcbnaaRaidArg2
import Derived.Test.YtamljoffmkcbnaaLaw
import Derived.Deep.CutRange
import Derived.Deep.RegionHeld3
namespace Go.Proofs.Ytamljoffmkcbnaa.lawExactRaidRead
open Go.ChangeShapes Go.WideShapes Go.ChangeAt Go.RowKit Go.Sort
set_option maxRecDepth 100000
set_option linter.unusedVariables false
set_option linter.unusedSimpArgs false

theorem pt5 {w : World} {b : Nat} {c0 c1 c2 c3 c4 : Value} {T : TypeId} (h : BoxAt w b #[c0, c1, c2, c3, c4] T) :
    w.cell? ⟨b, 0, none⟩ = some c0 ∧ w.cell? ⟨b, 1, none⟩ = some c1 ∧ w.cell? ⟨b, 2, none⟩ = some c2 ∧ w.cell? ⟨b, 3, none⟩ = some c3 ∧ w.cell? ⟨b, 4, none⟩ = some c4 :=
  ⟨h.cell 0, h.cell 1, h.cell 2, h.cell 3, h.cell 4⟩
theorem ra1 {w : World} {b : Nat} {c0 : Value} {T : TypeId} (h : BoxAt w b #[c0] T) : w.cell? ⟨b, 0, none⟩ = some c0 := h.cell 0
/-- As many disks came in as are in the copy. -/
def ToRn (n : Nat) (w : World) (ds : List Dk) (e : Ending) (w' : World) : Prop := ∃ (A : Option Addr) (c : Nat) (ys : List DA), ys.length = n ∧ e = .returned (.agg #[.slice A n c]) ∧ RRd w' A c ys ds ∧ Below w.heap.size w w'

set_option maxHeartbeats 8000000 in
theorem walk (w : World) (A : Option Addr) (cap : Nat) (xs : List DA) (ds : List Dk) (p : Pt) (h : RRd w A cap xs ds) :
    Calls Try.prog 4 #[.agg #[.slice A xs.length cap], p.v] w fun e w' => e = .returned (.bool true) ∧ Below w.heap.size w w' := by
  have HX := Lib.hid h
  have SZ := Lib.hid (fun W (hB : Below w.heap.size w W) => szRaid_any W A cap xs ds (HX.out.below hB))
  have TS := Lib.hid (fun (hb : xs.length ≤ 1048576 ∧ ∀ x ∈ xs, x.nC ≤ 1048576 ∧ x.nW ≤ 1048576) W (hB : Below w.heap.size w W) => ((toRaid_any W A cap xs ds (HX.out.below hB) hb.1 hb.2).mono fun e w' hh => (show ToRn xs.length W ds e w' by
    obtain ⟨A', c', ys, he, hr, hB'⟩ := hh
    have hl : ys.length = xs.length := hr.len.symm.trans HX.out.len
    exact ⟨A', c', ys, hl, by rw [he, hl], hr, hB'⟩)))
  have TT := Lib.hid (fun W => toPt_any p W)
  have SO := Lib.hid (fun (hb : xs.length ≤ 1048576 ∧ ∀ x ∈ xs, x.nC ≤ 1048576 ∧ x.nW ≤ 1048576) W A' c' ys (hl : ys.length = xs.length) (h : RRd W A' c' ys ds) => (by have := specRaidRead_any W A' c' ys ds p h (by rw [hl]; exact hb.1); rw [hl] at this; exact this))
  have IO := Lib.hid (fun W A' c' ys (hl : ys.length = xs.length) (h : RRd W A' c' ys ds) => (by have := raidRead_any W A' c' ys ds p h; rw [hl] at this; exact this))
  have EQ := Lib.hid (fun W A' c' ys A2 c2 zs (hl : ys.length = xs.length) (hk : zs.length = xs.length) (h : RRd W A' c' ys ds) (g : RRd W A2 c2 zs ds) => (by have := eqRaid_true W A' A2 c' c2 ys zs ds h g; rw [hl, hk] at this; exact this))
  clear h HX
  generalize hPP : (xs.length ≤ 1048576 ∧ ∀ x ∈ xs, x.nC ≤ 1048576 ∧ x.nW ≤ 1048576) = PP at *
  clear hPP
  generalize xs.length = n at *
  generalize rrK ds p = rk at *
  generalize optS rk = sv at *
  generalize rk.isSome = okv at *
  obtain ⟨pa, pb, ps, pu, pl⟩ := p
  unfold Pt.v at *
  dsimp only at *
  have HBw := Lib.hid (below_alloc (below_alloc (Below.refl w.heap.size w) (.cells #[.slice A n cap] 38)) (.cells #[.int .i64 pa, .int .i64 pb, .int .i64 ps, .int .i64 pu, .int .i64 pl] 39))
  have BB0 := Lib.hid ((box_new w #[.slice A n cap] 38).alloc (.cells #[.int .i64 pa, .int .i64 pb, .int .i64 ps, .int .i64 pu, .int .i64 pl] 39))
  have BB1 := box_new (w.alloc (.cells #[.slice A n cap] 38)) #[.int .i64 pa, .int .i64 pb, .int .i64 ps, .int .i64 pu, .int .i64 pl] 39
  simp only [World.size_alloc] at BB1
  replace BB1 := Lib.hid BB1
  go_enter Try.func4, Try.ntmps4
  go_wp2_with fail
  refine Calls.mono (SZ.out _ HBw.out) ?_
  rintro e w1 ⟨z, rfl, _, _, hzz, hB⟩
  have BX0 := Lib.hid (BB0.out.below hB)
  have BX1 := Lib.hid (BB1.out.below hB)
  have HB1 := below_below HBw.out hB
  clear hB HBw SZ BB0 BB1
  by_cases hneg : z < 0
  · go_wp2_with fail
    go_ret
    exact ⟨rfl, HB1⟩
  have hbb := hzz (by omega)
  have T1 := Lib.hid (TS.out hbb)
  have S1 := Lib.hid (SO.out hbb)
  clear hzz hbb TS SO
  have bx0 := BX0.out.cell
  have bl0 := BX0.out.lt
  have bx1 := BX1.out.cell
  have bl1 := BX1.out.lt
  go_wp2_with fail
  --H5
  go_region_held3 (fun w' => (w'.cell? ⟨w.heap.size, 0, none⟩ = some (.slice A n cap)) ∧ (w'.cell? ⟨w.heap.size + 1, 0, none⟩ = some (.int .i64 pa) ∧ w'.cell? ⟨w.heap.size + 1, 1, none⟩ = some (.int .i64 pb) ∧ w'.cell? ⟨w.heap.size + 1, 2, none⟩ = some (.int .i64 ps) ∧ w'.cell? ⟨w.heap.size + 1, 3, none⟩ = some (.int .i64 pu) ∧ w'.cell? ⟨w.heap.size + 1, 4, none⟩ = some (.int .i64 pl))) (first | exact ⟨ra1 (BX0.out.below (by (repeat (first | assumption | exact Below.refl _ _ | refine below_alloc ?_ _ | refine Below.drew ?_ | refine below_drewN ?_ _ | refine below_below ?_ (by assumption))))), pt5 (BX1.out.below (by (repeat (first | assumption | exact Below.refl _ _ | refine below_alloc ?_ _ | refine Below.drew ?_ | refine below_drewN ?_ _ | refine below_below ?_ (by assumption)))))⟩)
    (first
      | (have _g := G3; go_at_call 13; clear _g; refine Calls.mono (S1.out _ A8 c8 y8 l8.out (X2.out.below (by (repeat (first | assumption | exact Below.refl _ _ | refine below_alloc ?_ _ | refine Below.drew ?_ | refine below_drewN ?_ _ | refine below_below ?_ (by assumption)))))) ?_; rintro e w4 ⟨rfl, hB4⟩)
      | (go_at_call 15; refine Calls.mono (TT.out _) ?_; rintro e w3 ⟨rfl, hB3⟩; have G3 := Lib.hid hB3)
      | (go_at_call 14; refine Calls.mono (T1.out _ (by refine below_below HB1 ?_; (repeat (first | assumption | exact Below.refl _ _ | refine below_alloc ?_ _ | refine Below.drew ?_ | refine below_drewN ?_ _ | refine below_below ?_ (by assumption))))) ?_; rintro e w2 ⟨A8, c8, y8, l8, rfl, hr, hB2⟩; have X2 := Lib.hid hr; replace l8 := Lib.hid l8; clear hr))
  have H14 := Lib.hid (show Below w1.heap.size w1 w4 from by (repeat (first | assumption | exact Below.refl _ _ | refine below_alloc ?_ _ | refine Below.drew ?_ | refine below_drewN ?_ _ | refine below_below ?_ (by assumption))))
  have BY0 := Lib.hid (BX0.out.below H14.out)
  have BY1 := Lib.hid (BX1.out.below H14.out)
  have HB4 := below_below HB1 H14.out
  clear bx0 bl0 BX0 bx1 bl1 BX1 hB2 hB4 hB3 G3 X2 H14 HB1 l8
  have bx0 := BY0.out.cell
  have bl0 := BY0.out.lt
  have bx1 := BY1.out.cell
  have bl1 := BY1.out.lt
  go_wp2_with fail
  refine Calls.mono (T1.out _ HB4) ?_
  rintro e w5 ⟨A5, c5, y5, l5, rfl, hr, hB5⟩
  replace l5 := Lib.hid l5
  have X5 := Lib.hid (hr.below (below_alloc (Below.refl w5.heap.size w5) (.cells #[.slice A5 n c5] 25)))
  have BZ := Lib.hid (box_new w5 #[.slice A5 n c5] 25)
  have BV0 := Lib.hid ((BY0.out.below hB5).alloc (.cells #[.slice A5 n c5] 25))
  have BV1 := Lib.hid ((BY1.out.below hB5).alloc (.cells #[.slice A5 n c5] 25))
  have HB6 := below_alloc (below_below HB4 hB5) (.cells #[.slice A5 n c5] 25)
  clear hB5 hr HB4 bx0 bl0 BY0 bx1 bl1 BY1
  have hz5 : w5.heap.size < (w5.alloc (.cells #[.slice A5 n c5] 25)).heap.size := by simp
  go_wp2_with fail
  generalize w5.alloc (.cells #[.slice A5 n c5] 25) = W6 at *
  have bx0 := BV0.out.cell
  have bl0 := BV0.out.lt
  have bx1 := BV1.out.cell
  have bl1 := BV1.out.lt
  have bz := BZ.out.cell
  --H7
  go_region_held3 (fun w' => (w'.cell? ⟨w5.heap.size, 0, none⟩ = some (.slice A5 n c5)) ∧ (w'.cell? ⟨w.heap.size + 1, 0, none⟩ = some (.int .i64 pa) ∧ w'.cell? ⟨w.heap.size + 1, 1, none⟩ = some (.int .i64 pb) ∧ w'.cell? ⟨w.heap.size + 1, 2, none⟩ = some (.int .i64 ps) ∧ w'.cell? ⟨w.heap.size + 1, 3, none⟩ = some (.int .i64 pu) ∧ w'.cell? ⟨w.heap.size + 1, 4, none⟩ = some (.int .i64 pl))) (first | exact ⟨ra1 (BZ.out.below (by (repeat (first | assumption | exact Below.refl _ _ | refine below_alloc ?_ _ | refine Below.drew ?_ | refine below_drewN ?_ _ | refine below_below ?_ (by assumption))))), pt5 (BV1.out.below (by (repeat (first | assumption | exact Below.refl _ _ | refine below_alloc ?_ _ | refine Below.drew ?_ | refine below_drewN ?_ _ | refine below_below ?_ (by assumption)))))⟩)
    (first
      | (have _g := G7; go_at_call 10; clear _g; refine Calls.mono (IO.out _ A5 c5 y5 l5.out (X5.out.below (by (repeat (first | assumption | exact Below.refl _ _ | refine below_alloc ?_ _ | refine Below.drew ?_ | refine below_drewN ?_ _ | refine below_below ?_ (by assumption)))))) ?_; rintro e w8 ⟨rfl, hB8⟩)
      | (go_at_call 15; refine Calls.mono (TT.out _) ?_; rintro e w7 ⟨rfl, hB7⟩; have G7 := Lib.hid hB7))
  have H68 := Lib.hid (show Below W6.heap.size W6 w8 from by (repeat (first | assumption | exact Below.refl _ _ | refine below_alloc ?_ _ | refine Below.drew ?_ | refine below_drewN ?_ _ | refine below_below ?_ (by assumption))))
  have HB8 := below_below HB6 H68.out
  have BZ8 := Lib.hid (BZ.out.below H68.out)
  have X8 := Lib.hid (X5.out.below H68.out)
  have BV8 := Lib.hid (BV0.out.below H68.out)
  clear hz5 bz hB8 hB7 G7 bx0 bl0 BV0 bx1 bl1 BV1 BZ X5 H68 HB6 S1 IO TT
  have e1 : (okv != okv) = false := by simp
  have bz := BZ8.out.cell
  have bzl := BZ8.out.lt
  have bv := BV8.out.cell
  have bvl := BV8.out.lt
  go_wp2_with fail
  --H10
  go_region_held3 (fun w' => (w'.cell? ⟨w5.heap.size, 0, none⟩ = some (.slice A5 n c5)) ∧ (w'.cell? ⟨w.heap.size, 0, none⟩ = some (.slice A n cap))) (first | exact ⟨ra1 (BZ8.out.below (by (repeat (first | assumption | exact Below.refl _ _ | refine below_alloc ?_ _ | refine Below.drew ?_ | refine below_drewN ?_ _ | refine below_below ?_ (by assumption))))), ra1 (BV8.out.below (by (repeat (first | assumption | exact Below.refl _ _ | refine below_alloc ?_ _ | refine Below.drew ?_ | refine below_drewN ?_ _ | refine below_below ?_ (by assumption)))))⟩)
    (first
      | (go_at_call 14; refine Calls.mono (T1.out _ (by refine below_below HB8 ?_; (repeat (first | assumption | exact Below.refl _ _ | refine below_alloc ?_ _ | refine Below.drew ?_ | refine below_drewN ?_ _ | refine below_below ?_ (by assumption))))) ?_; rintro e w9 ⟨A9, c9, y9, l9, rfl, hr, hB9⟩; have X9 := Lib.hid hr; replace l9 := Lib.hid l9; clear hr)
      | (go_at_call 16; refine Calls.mono (EQ.out _ A5 c5 y5 A9 c9 y9 l5.out l9.out (X8.out.below (by (repeat (first | assumption | exact Below.refl _ _ | refine below_alloc ?_ _ | refine Below.drew ?_ | refine below_drewN ?_ _ | refine below_below ?_ (by assumption))))) (X9.out.below (by (repeat (first | assumption | exact Below.refl _ _ | refine below_alloc ?_ _ | refine Below.drew ?_ | refine below_drewN ?_ _ | refine below_below ?_ (by assumption)))))) ?_; rintro e wa ⟨rfl, hBa⟩))
  go_wp2_with fail
  go_ret
  exact ⟨rfl, below_below HB8 (by (repeat (first | assumption | exact Below.refl _ _ | refine below_alloc ?_ _ | refine Below.drew ?_ | refine below_drewN ?_ _ | refine below_below ?_ (by assumption))))⟩

set_option maxRecDepth 100000 in
theorem lifted (os : Os) (started : os.Started) (H : Type) (enc : TypeId × Value → H) :
    ReturnsInHanded {} Try.checked os 4 .any (Rows.fnExactRaidReadSpec.pre6 enc Try.prog Try.f4 Rows.fnExactRaidReadRow.domain false) (Rows.fnExactRaidReadSpec.post enc Try.prog Try.f4 false true false false) := by
  refine returnsInHanded_of_change (C := Try.checked) own started (by kernel_rfl) Try.func4
    (ChangeSpec.witness6 (enc := enc) (C := Try.checked) false ⟨#[], #[.agg #[.slice none 0 0], .agg #[.int .i64 0, .int .i64 0, .int .i64 0, .int .i64 0, .int .i64 0]], []⟩ 8 (by kernel_rfl) (by kernel_rfl) (by kernel_rfl) (by kernel_rfl)) ?_
  intro W base args ds gs before hval0 hW hcnd _
  have hval : ∀ (j : Nat) t v, Try.f4.params[j]? = some t → args[j]? = some v → Value.okWide Try.prog W .any base t v := hval0
  have hW' := hW
  obtain ⟨p, q, hA, hV, rfl, hfz, hnd⟩ := hW
  obtain ⟨rfl, rfl⟩ := trodVars_none hV
  have hA0 : DataW.TrodAll enc Try.prog W 0 (fun _ => true) true Try.f4.params.toList args.toList ds p := hA
  rw [Try.params4] at hA0 hval
  obtain ⟨v0, vs0, d0, ds0, p0, q0, hargs, rfl, rfl, h0, r0⟩ := trodAll_cons hA0
  obtain ⟨v1, vs1, d1, ds1, p1, q1, rfl, rfl, rfl, h1, r1⟩ := trodAll_cons r0
  obtain ⟨rfl, rfl, rfl⟩ := trodAll_nil r1
  obtain rfl : args = #[v0, v1] := by cases args; simp_all
  obtain ⟨rA, rc, rx, rd, rfl, rr⟩ := open_raid (hval 0 38 v0 rfl rfl) h0
  obtain ⟨p, rfl⟩ := open_ptrR (hval 1 39 v1 rfl rfl) h1
  refine (walk W rA rc rx rd p rr).mono fun e W' ⟨he, bel⟩ => ?_
  subst he
  exact ⟨_, rfl, law_post rfl (by kernel_rfl) (params_ok (by kernel_rfl)) hW' rfl rfl rfl bel⟩

theorem proved : Rows.FnExactRaidReadSaid :=
  OpenClaim.holds_of_wide 4 Try.f4 rfl rfl rfl rfl rfl rfl rfl ⟨rfl, rfl, rfl, rfl, rfl⟩ rfl rfl rfl rfl rfl (by kernel_rfl) Try.func4 (by kernel_rfl)
    (of_decide_eq_true (by kernel_rfl)) (by unfold Func.isWrapper; first | (rw [if_pos (by decide +kernel)]; kernel_rfl) | (rw [if_neg (by decide +kernel)]; exact ⟨rfl, rfl⟩))
    (fun os started H enc _ => lifted os started H enc)

end Go.Proofs.Ytamljoffmkcbnaa.lawExactRaidRead
