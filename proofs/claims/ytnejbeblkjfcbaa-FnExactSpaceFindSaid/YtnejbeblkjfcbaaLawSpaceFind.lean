/- FnExactSpaceFind returns true for every space, every number and every list. No condition. -/
import Derived.Test.YtnejbeblkjfcbaaSpaceHelp
import Derived.Test.YtnejbeblkjfcbaaLaw
namespace Go.Proofs.Ytnejbeblkjfcbaa.lawExactSpaceFind
open Go.ChangeShapes Go.WideShapes Go.ChangeAt Go.RowKit
set_option linter.unusedVariables false
set_option linter.unusedSimpArgs false

theorem box2 {w Wk : World} {x y : Value} {t : TypeId} (hB : Below (w.alloc (.cells #[x, y] t)).heap.size (w.alloc (.cells #[x, y] t)) Wk) :
    Wk.cell? ⟨w.heap.size, 0, none⟩ = some x ∧ Wk.cell? ⟨w.heap.size, 1, none⟩ = some y ∧ w.heap.size < Wk.heap.size := by
  have hz : w.heap.size < (w.alloc (.cells #[x, y] t)).heap.size := by simp
  refine ⟨?_, ?_, Nat.lt_of_lt_of_le hz hB.size⟩
  · rw [hB.cell (p := ⟨w.heap.size, 0, none⟩) hz]; simp [go_sem]
  · rw [hB.cell (p := ⟨w.heap.size, 1, none⟩) hz]; simp [go_sem]
theorem below_below_top {W0 W W' : World} (h : Below W0.heap.size W0 W) (hk : Below W.heap.size W W') : Below W0.heap.size W0 W' := below_below h hk
theorem undrew {B n : Nat} {W W' : World} (h : Below B (W.drewN n) W') : Below B W W' := ⟨h.os, h.tape, h.output, h.size, h.block⟩
theorem below_box {w Wk : World} {o : Obj} (hB : Below (w.alloc o).heap.size (w.alloc o) Wk) : Below w.heap.size w Wk := below_below (below_alloc (Below.refl _ _) o) hB

set_option maxHeartbeats 4000000 in
theorem walk (w : World) (A B C : Option Addr) (c d b : Nat) (rs ls but : List Int) (f : Int) (h : RdT encN 1 w A rs) (g : RdT encN 1 w B ls) (hbt : RdT encN 1 w C but) (hc : rs.length ≤ c) (hd : ls.length ≤ d) (hb : but.length ≤ b) (hcm : c ≤ 9223372036854775807) (hdm : d ≤ 9223372036854775807) (hbm : b ≤ 9223372036854775807) :
    Calls Try.prog 3 #[.agg #[.slice A rs.length c, .slice B ls.length d], .int .i64 f, .slice C but.length b] w fun e w' => e = .returned (.bool true) ∧ Below w.heap.size w w' := by
  have HR := Lib.hid h
  have HG := Lib.hid g
  have HU := Lib.hid hbt
  clear h g hbt
  by_cases hbig : 1048576 < but.length
  · go_enter Try.func3, Try.ntmps3
    go_wp2_with fail
    go_ret
    exact ⟨rfl, by (repeat (first | assumption | exact Below.refl _ _ | refine below_alloc ?_ _ | refine Below.drew ?_ | refine below_drewN ?_ _ | refine below_set ?_ (by first | exact Nat.le_refl _ | omega | (simp; done) | (simp; omega)) _ | refine below_kp ?_ (by assumption) (by simp) | refine below_below ?_ (by assumption)))⟩
  have hBa : Below (w.alloc (.cells #[.slice A rs.length c, .slice B ls.length d] 24)).heap.size (w.alloc (.cells #[.slice A rs.length c, .slice B ls.length d] 24)) (w.alloc (.cells #[.slice A rs.length c, .slice B ls.length d] 24)) := Below.refl _ _
  have HBa := Lib.hid hBa
  clear hBa
  have HF := Lib.hid (fun w A B C c d b (h : RdT encN 1 w A rs) g hbt hc hd hb => spaceFind_any w A B C c d b rs ls but f h g hbt hc hd hb)
  have HE := Lib.hid (fun w A B C c d b (h : RdT encN 1 w A rs) g hbt hc hd hb => specSpaceFind_any w A B C c d b rs ls but f h g hbt hc hd hb)
  generalize findOf rs ls but f = r at *
  go_enter Try.func3, Try.ntmps3
  go_wp2_with fail
  refine Calls.mono (szSpace_any _ A B _ c _ d _ (by omega) (by omega) (by omega) (by omega)) ?_
  rintro e w1 ⟨z, rfl, hz, hB⟩
  have HB1 := Lib.hid (HBa.out.trans hB)
  obtain ⟨s0, s1, zz⟩ := box2 HB1.out
  clear hB HBa
  by_cases hneg : z < 0
  · go_wp2_with fail
    go_ret
    exact ⟨rfl, below_box HB1.out⟩
  obtain ⟨hn, hm⟩ := hz (by omega)
  -- the reference
  go_wp2_with fail
  refine Calls.mono (toSpace_any _ A B c d rs ls (HR.out.below (below_box HB1.out)) (HG.out.below (below_box HB1.out)) hc hd (by omega) (by omega)) ?_
  rintro e w2 ⟨A2, c2, B2, d2, rfl, hc2, hcm2, hd2, hdm2, hr2, hg2, hB⟩
  have R2 := Lib.hid hr2
  have G2 := Lib.hid hg2
  have HB2 := Lib.hid (below_below_top HB1.out hB)
  obtain ⟨s0, s1, zz⟩ := box2 HB2.out
  clear hB hr2 hg2 HB1
  go_wp2_with fail
  refine Calls.mono (toIntS_any _ C b but (HU.out.below (below_box HB2.out)) hb (by omega)) ?_
  rintro e w3 ⟨v, rfl, hO, hB⟩
  obtain ⟨C3, c3, rfl, hc3, hm3, _, hr3⟩ := hO.form
  have R3 := Lib.hid (R2.out.below hB)
  have G3 := Lib.hid (G2.out.below hB)
  have U3 := Lib.hid hr3
  have HB3 := Lib.hid (below_below_top HB2.out hB)
  obtain ⟨s0, s1, zz⟩ := box2 HB3.out
  clear hB hO hr3 HB2 R2 G2
  go_wp2_with fail
  refine Calls.mono (HE.out _ _ _ _ _ _ _ R3.out G3.out U3.out hc2 hd2 hc3 hcm2 hdm2 hm3) ?_
  rintro e w4 ⟨rfl, hB⟩
  have HB4 := Lib.hid (below_below_top HB3.out hB)
  obtain ⟨s0, s1, zz⟩ := box2 HB4.out
  clear hB HB3 R3 G3 U3
  -- the program's
  go_wp2_with fail
  refine Calls.mono (toSpace_any _ A B c d rs ls (HR.out.below (below_box HB4.out)) (HG.out.below (below_box HB4.out)) hc hd (by omega) (by omega)) ?_
  rintro e w5 ⟨A5, c5, B5, d5, rfl, hc5, hcm5, hd5, hdm5, hr5, hg5, hB⟩
  have hBn : Below (w5.alloc (.cells #[.slice A5 rs.length c5, .slice B5 ls.length d5] 27)).heap.size (w5.alloc (.cells #[.slice A5 rs.length c5, .slice B5 ls.length d5] 27)) (w5.alloc (.cells #[.slice A5 rs.length c5, .slice B5 ls.length d5] 27)) := Below.refl _ _
  have NB5 := Lib.hid hBn
  have R5 := Lib.hid (hr5.below (below_box hBn))
  have G5 := Lib.hid (hg5.below (below_box hBn))
  have HB5 := Lib.hid (below_below_top (below_below_top HB4.out hB) (below_box hBn))
  obtain ⟨s0, s1, zz⟩ := box2 HB5.out
  clear hB hr5 hg5 HB4 hBn
  go_wp2_with fail
  refine Calls.mono (toIntS_any _ C b but (HU.out.below (below_box HB5.out)) hb (by omega)) ?_
  rintro e w6 ⟨v, rfl, hO, hB⟩
  obtain ⟨C6, c6, rfl, hc6, hm6, _, hr6⟩ := hO.form
  have NB6 := Lib.hid (NB5.out.trans hB)
  obtain ⟨n0, n1, nz⟩ := box2 NB6.out
  have R6 := Lib.hid (R5.out.below hB)
  have G6 := Lib.hid (G5.out.below hB)
  have U6 := Lib.hid hr6
  have HB6 := Lib.hid (below_below_top HB5.out hB)
  obtain ⟨s0, s1, zz⟩ := box2 HB6.out
  clear hB hO hr6 HB5 R5 G5 NB5
  go_wp2_with fail
  refine Calls.mono (HF.out _ _ _ _ _ _ _ R6.out G6.out U6.out hc5 hd5 hc6 hcm5 hdm5 hm6) ?_
  rintro e w7 ⟨rfl, hB⟩
  have NB7 := Lib.hid (below_below_top NB6.out hB)
  obtain ⟨n0, n1, nz⟩ := box2 NB7.out
  have R7 := Lib.hid (R6.out.below hB)
  have G7 := Lib.hid (G6.out.below hB)
  have U7 := Lib.hid (U6.out.below hB)
  have HB7 := Lib.hid (below_below_top HB6.out hB)
  obtain ⟨s0, s1, zz⟩ := box2 HB7.out
  clear hB HB6 R6 G6 U6 NB6
  go_wp2_with fail
  have RA := Lib.hid (HR.out.below (below_box HB7.out))
  have RB := Lib.hid (HG.out.below (below_box HB7.out))
  go_region_with (first | (go_at_call 6; refine Calls.mono (toSpace_any _ A B c d rs ls RA.out RB.out hc hd ?hn ?hm) ?_; (case hn => omega); (case hm => omega); rintro e w8 ⟨A8, c8, B8, d8, rfl, hc8, hcm8, hd8, hdm8, hr8, hg8, hB⟩; have hB' := undrew hB; have NB8 := Lib.hid (below_below_top NB7.out hB'); obtain ⟨n0, n1, nz⟩ := box2 NB8.out; have HB8 := Lib.hid (below_below_top HB7.out hB'); obtain ⟨s0, s1, zz⟩ := box2 HB8.out; have R8 := Lib.hid hr8; have G8 := Lib.hid hg8; have P8 := Lib.hid (R7.out.below hB'); have Q8 := Lib.hid (G7.out.below hB'); have U8 := Lib.hid (U7.out.below hB'); clear hB hB' hr8 hg8) | (go_at_call 9; refine Calls.mono (eqSpace_true _ _ _ _ _ _ _ _ _ rs ls P8.out Q8.out R8.out G8.out hc5 hd5 hc8 hd8 hcm5 hdm5) ?_; rintro e w9 ⟨rfl, hB⟩; have HB9 := Lib.hid (below_below_top HB8.out hB); have U9 := Lib.hid (U8.out.below hB); clear hB))
  all_goals
    clear n0 n1 nz s0 s1 zz HB8 NB8 NB7 HB7 R7 G7 U7 RA RB P8 Q8 R8 G8 U8 HF HE
    go_wp2_with fail
    refine Calls.mono (toIntS_any _ C b but (HU.out.below (below_box HB9.out)) hb (by omega)) ?_
    rintro e w10 ⟨v, rfl, hO, hB⟩
    obtain ⟨C10, c10, rfl, hc10, hm10, _, hr10⟩ := hO.form
    have U10 := Lib.hid hr10
    have V10 := Lib.hid (U9.out.below hB)
    have HB10 := Lib.hid (below_below_top HB9.out hB)
    clear hB hO hr10 HB9 U9
    go_wp2_with fail
    refine Calls.mono (eqIntS_true _ _ _ _ _ but V10.out U10.out hc6 hc10 hm6) ?_
    rintro e w11 ⟨rfl, hB⟩
    have HB11 := Lib.hid (below_below_top HB10.out hB)
    clear hB HB10 U10 V10
    go_wp2_with fail
    go_ret
    exact ⟨rfl, below_box HB11.out⟩

set_option maxRecDepth 100000 in
theorem lifted (os : Os) (started : os.Started) (H : Type) (enc : TypeId × Value → H) :
    ReturnsInHanded {} Try.checked os 3 .any (Rows.fnExactSpaceFindSpec.pre6 enc Try.prog Try.f3 Rows.fnExactSpaceFindRow.domain false) (Rows.fnExactSpaceFindSpec.post enc Try.prog Try.f3 false true false false) := by
  refine returnsInHanded_of_change (C := Try.checked) own started (by kernel_rfl) Try.func3
    (ChangeSpec.witness6 (enc := enc) (C := Try.checked) false ⟨#[], #[.agg #[.slice none 0 0, .slice none 0 0], .int .i64 0, .slice none 0 0], []⟩ 8 (by kernel_rfl) (by kernel_rfl) (by kernel_rfl) (by kernel_rfl)) ?_
  intro W base args ds gs before hval0 hW hcnd _
  have hval : ∀ (j : Nat) t v, Try.f3.params[j]? = some t → args[j]? = some v → Value.okWide Try.prog W .any base t v := hval0
  have hW' := hW
  obtain ⟨p, q, hA, hV, rfl, hfz, hnd⟩ := hW
  obtain ⟨rfl, rfl⟩ := trodVars_none hV
  have hA0 : DataW.TrodAll enc Try.prog W 0 (fun _ => true) true Try.f3.params.toList args.toList ds p := hA
  rw [Try.params3] at hA0 hval
  obtain ⟨v0, vs0, d0, ds0, p0, q0, hargs, rfl, rfl, h0, r0⟩ := trodAll_cons hA0
  obtain ⟨v1, vs1, d1, ds1, p1, q1, rfl, rfl, rfl, h1, r1⟩ := trodAll_cons r0
  obtain ⟨v2, vs2, d2, ds2, p2, q2, rfl, rfl, rfl, h2, r2⟩ := trodAll_cons r1
  obtain ⟨rfl, rfl, rfl⟩ := trodAll_nil r2
  obtain rfl : args = #[v0, v1, v2] := by cases args; simp_all
  obtain ⟨sA, sc, sB, sd, s1, s2, rfl, shc, shd, shm, shn, sr, sl⟩ := open_space (hval 0 24 v0 rfl rfl) h0
  obtain ⟨f, rfl, _, _, wf⟩ := open_int Try.underlying3 (hval 1 3 v1 rfl rfl) h1
  obtain ⟨butA, butc, but, rfl, buthc, buthm, butr⟩ := open_ints' (hval 2 22 v2 rfl rfl) h2
  refine (walk W sA sB butA sc sd butc s1 s2 but f sr sl butr shc shd buthc shm shn buthm).mono fun e W' ⟨he, bel⟩ => ?_
  subst he
  exact ⟨_, rfl, law_post rfl (by kernel_rfl) (params_ok (by kernel_rfl)) hW' rfl rfl rfl bel⟩

theorem proved : Rows.FnExactSpaceFindSaid :=
  OpenClaim.holds_of_wide 3 Try.f3 rfl rfl rfl rfl rfl rfl rfl ⟨rfl, rfl, rfl, rfl, rfl⟩ rfl rfl rfl rfl rfl (by kernel_rfl) Try.func3 (by kernel_rfl)
    (of_decide_eq_true (by kernel_rfl)) (by unfold Func.isWrapper; first | (rw [if_pos (by decide +kernel)]; kernel_rfl) | (rw [if_neg (by decide +kernel)]; exact ⟨rfl, rfl⟩))
    (fun os started H enc _ => lifted os started H enc)

end Go.Proofs.Ytnejbeblkjfcbaa.lawExactSpaceFind
