/- The laws' own copies of disks. -/
import Derived.Test.YtamljoffmkcbnaaRaidArg
import Derived.Test.YtamljoffmkcbnaaPtrS
namespace Go.Proofs.Ytamljoffmkcbnaa
open Go.RowKit
set_option maxRecDepth 100000
set_option linter.unusedVariables false
set_option linter.unusedSimpArgs false

def zeroD : DA := ⟨none, 0, 0, none, 0, 0, false⟩
theorem oneD : OneC encD := fun x j => by
  rcases j with _ | _ | j <;> rfl
theorem info_disk : (Try.prog.info? 51).map (fun i => (i.zero, i.size, i.bytes)) = some (some (.agg #[.slice none 0 0, .slice none 0 0, .bool false]), 3, 56) := by kernel_rfl
theorem elD : El 23 51 3 56 := El.mk' Try.underlying23 info_disk rfl (by omega)
theorem cellsOf_set3 {α : Type} {enc : α → Nat → Value} (l : List α) (k : Nat) (x : α) (hk : k < l.length) :
    (((cellsOf enc 3 l).set (k * 3) (enc x 0)).set (k * 3 + 1) (enc x 1)).set (k * 3 + 2) (enc x 2) = cellsOf enc 3 (l.set k x) := by
  induction l generalizing k with
  | nil => simp at hk
  | cons y r ih =>
    cases k with
    | zero => simp [cellsOf, List.range_succ]
    | succ k =>
      have := ih k (by simpa using hk)
      simp only [List.set_cons_succ, cellsOf, ← this]
      simp [List.range_succ, Nat.add_mul]
theorem madeD (n : Nat) : (madeCells (Value.agg #[.slice none 0 0, .slice none 0 0, .bool false]).cells (n * 3)).toList = cellsOf encD 3 (List.replicate n zeroD) := by
  apply List.ext_getElem?
  intro i
  by_cases hi : i < n * 3
  · have h1 : (List.replicate n zeroD)[i / 3]? = some zeroD := by rw [List.getElem?_replicate, if_pos (by omega)]
    have h2 := cellsOf_get (enc := encD) (sz := 3) _ (i / 3) (i % 3) _ h1 (by omega)
    rw [show i / 3 * 3 + i % 3 = i by omega] at h2
    rw [h2]
    rcases (show i % 3 = 0 ∨ i % 3 = 1 ∨ i % 3 = 2 by omega) with e | e | e <;> simp [madeCells, Value.cells, hi, e, encD, zeroD]
  · rw [List.getElem?_eq_none (by simp [madeCells]; omega), List.getElem?_eq_none (by rw [cellsOf_length, List.length_replicate]; omega)]
theorem put_next {α : Type} (ys : List α) (n k : Nat) (x z : α) (hy : ys.length = k) (hk : k < n) : (ys ++ List.replicate (n - k) z).set k x = (ys ++ [x]) ++ List.replicate (n - (k + 1)) z := by
  rw [List.set_append_right _ _ (by omega), hy, Nat.sub_self, show n - k = (n - (k + 1)) + 1 by omega, List.replicate_succ, List.set_cons_zero]
  simp

/-- The disks copied so far. -/
def Cop (base : Nat) (w : World) (ds : List Dk) (ys : List DA) : Prop := ∀ (i : Nat) (y : DA), ys[i]? = some y → ∃ d, ds[i]? = some d ∧ DRd w y d ∧ From base y.C ∧ From base y.W
theorem Cop.below {base : Nat} {w w' : World} {ds : List Dk} {ys : List DA} (h : Cop base w ds ys) (hB : Below w.heap.size w w') : Cop base w' ds ys := fun i y hy => by
  obtain ⟨d, h1, h2, h3⟩ := h i y hy
  exact ⟨d, h1, h2.below hB, h3⟩
theorem Cop.kp {base : Nat} {ex : List Nat} {w w' : World} {ds : List Dk} {ys : List DA} (h : Cop base w ds ys) (hK : Kp ex w w') (he : ∀ k ∈ ex, k < base) : Cop base w' ds ys := fun i y hy => by
  obtain ⟨d, h1, h2, h3, h4⟩ := h i y hy
  exact ⟨d, h1, h2.kp hK (fun a ha hm => by have := h3 a ha; have := he _ hm; omega) (fun a ha hm => by have := h4 a ha; have := he _ hm; omega), h3, h4⟩
theorem Cop.snoc {base : Nat} {w : World} {ds : List Dk} {ys : List DA} {y : DA} {d : Dk} (h : Cop base w ds ys) (hd : ds[ys.length]? = some d) (hr : DRd w y d) (hC : From base y.C) (hW : From base y.W) : Cop base w ds (ys ++ [y]) := fun i x hx => by
  by_cases hi : i < ys.length
  · rw [List.getElem?_append_left hi] at hx
    exact h i x hx
  · rcases (show i = ys.length ∨ ys.length < i by omega) with rfl | hgt
    · rw [List.getElem?_append_right (Nat.le_refl _), Nat.sub_self] at hx
      simp at hx
      subst hx
      exact ⟨d, hd, hr, hC, hW⟩
    · rw [List.getElem?_eq_none (by simp; omega)] at hx
      cases hx

/-- Disks' copy. -/
def ToDS (w : World) (ds : List Dk) (e : Ending) (w' : World) : Prop := ∃ (A : Option Addr) (c : Nat) (ys : List DA), e = .returned (.slice A ys.length c) ∧ RdT encD 3 w' A ys ∧ ys.length = ds.length ∧ ys.length ≤ c ∧ c ≤ 9223372036854775807 ∧ Cop w.heap.size w' ds ys ∧ From w.heap.size A ∧ Below w.heap.size w w'

set_option maxHeartbeats 4000000 in
theorem toDiskS_any (w : World) (A : Option Addr) (cap : Nat) (xs : List DA) (ds : List Dk) (h : RRd w A cap xs ds) (hn : xs.length ≤ 1048576) (hx : ∀ x ∈ xs, x.nC ≤ 1048576 ∧ x.nW ≤ 1048576) :
    Calls Try.prog 36 #[.slice A xs.length cap] w (ToDS w ds) := by
  have HR := Lib.hid h
  have HXX := Lib.hid hx
  have hc := h.hc
  have HLN := Lib.hid h.len
  clear h hx
  obtain ⟨i0, hi, hz0, hz1, hz2⟩ := info_parts info_disk
  go_enter Try.func36, Try.ntmps36
  go_wp2_with (at_make; refine wpList_make_full _ rfl _ _ 23 rfl w.heap.size 51 i0 _ 3 Try.underlying23 hi hz0 hz1 .i64 .i64 _ _ xs.length rfl rfl rfl rfl (by rw [hz2]; omega) (by unfold maxLen; omega) (Nat.le_refl _) ?_; intro w1 hown hgrow)
  have hB1 : Below w.heap.size w w1 := (Below.refl _ _).grown hgrow (Nat.le_refl _) (fun k hk => by cases hk)
  have hL1 : w.heap.size < w1.heap.size := by
    rcases hown.2 with ⟨h, _⟩ | ⟨g, cap', cur, h, _, hh, _⟩
    · cases h
    · cases h
      rcases Nat.lt_or_ge w.heap.size w1.heap.size with h' | h'
      · exact h'
      · rw [Array.getElem?_eq_none h'] at hh; cases hh
  rw [madeD] at hown
  go_loopw [4] (fun i wr => ∃ (k : Nat) (ys : List DA), k ≤ xs.length ∧ i = .int .i64 k ∧ Hid (ys.length = k) ∧ Hid (wr.ownsRow w.heap.size 51 3 (.slice (some ⟨w.heap.size, 0, none⟩) xs.length xs.length) xs.length (cellsOf encD 3 (ys ++ List.replicate (xs.length - k) zeroD))) ∧ Hid (Cop (w.heap.size + 1) wr ds ys) ∧ w.heap.size < wr.heap.size ∧ Hid (Below w.heap.size w wr)) (fun i _ => xs.length - (intOf i).toNat)
  case atStart => exact ⟨0, [], Nat.zero_le _, rfl, Lib.hid rfl, Lib.hid (by simpa using hown), Lib.hid (fun i y hy => by simp at hy), hL1, Lib.hid hB1⟩
  case round =>
    clear hown hgrow hB1 hL1
    obtain ⟨k, ys, hk, rfl, HYL, HO, HC, hL, HB⟩ := hrel
    by_cases hlt : k < xs.length
    · obtain ⟨b, off, x, rfl, hb, he, c0, c1, c2⟩ := (HR.out.below HB.out).rows.disk hlt
      obtain ⟨d, hd, hrd⟩ := (HR.out.below HB.out).each k x he
      obtain ⟨b1, b2⟩ := HXX.out x (List.mem_of_getElem? he)
      have HT := Lib.hid (toDisk_any wr x d hrd b1 b2)
      have HD := Lib.hid hd
      obtain ⟨xC, xnC, xcC, xW, xnW, xcW, xg⟩ := x
      unfold DA.v at HT
      dsimp only at *
      clear he hd hrd b1 b2
      go_wp2_with fail
      refine Calls.mono HT.out ?_
      rintro e w2 ⟨⟨yC, ynC, ycC, yW, ynW, ycW, yg⟩, he, hr2, hC2, hW2, hB2⟩
      unfold DA.v at he
      dsimp only at he
      subst he
      have hO2 := ownsRow_belowP HO.out hB2
      have hl : (cellsOf encD 3 (ys ++ List.replicate (xs.length - k) zeroD)).length = xs.length * 3 := hO2.1
      obtain ⟨v0, hv0⟩ : ∃ v0, w2.cell? ⟨w.heap.size, k * 3, none⟩ = some v0 := ⟨_, (hO2.cellAt (k * 3) (by omega)).trans (List.getElem?_eq_getElem (by omega))⟩
      obtain ⟨v1, hv1⟩ : ∃ v1, w2.cell? ⟨w.heap.size, k * 3 + 1, none⟩ = some v1 := ⟨_, (hO2.cellAt (k * 3 + 1) (by omega)).trans (List.getElem?_eq_getElem (by omega))⟩
      obtain ⟨v2, hv2⟩ : ∃ v2, w2.cell? ⟨w.heap.size, k * 3 + 2, none⟩ = some v2 := ⟨_, (hO2.cellAt (k * 3 + 2) (by omega)).trans (List.getElem?_eq_getElem (by omega))⟩
      have hf0 := hO2.frozenAt (k * 3)
      have hf1 := hO2.frozenAt (k * 3 + 1)
      have hf2 := hO2.frozenAt (k * 3 + 2)
      have HO2 := Lib.hid hO2
      have HB2 := Lib.hid (below_below HB.out hB2)
      have HC2 := Lib.hid ((HC.out.below hB2).snoc (y := ⟨yC, ynC, ycC, yW, ynW, ycW, yg⟩) (by rw [HYL.out]; exact HD.out) hr2 (fun a ha => by have := hC2 a ha; omega) (fun a ha => by have := hW2 a ha; omega))
      have hL2 : w.heap.size < w2.heap.size := by have := hB2.size; omega
      clear hO2 hl hB2 HC HO hr2 hC2 hW2 HD HT
      go_wp2_with fail
      go_roundw
      case rel =>
        refine ⟨k + 1, ys ++ [⟨yC, ynC, ycC, yW, ynW, ycW, yg⟩], by omega, by go_num, Lib.hid (by simp; exact HYL.out), Lib.hid ?_, Lib.hid ?_, by simp only [World.size_setCell]; exact hL2, Lib.hid ?_⟩
        · have h1 := (((HO2.out.stored (k * 3) (.slice yC ynC ycC)).1.stored (k * 3 + 1) (.slice yW ynW ycW)).1.stored (k * 3 + 2) (.bool yg)).1
          have e := cellsOf_set3 (enc := encD) (ys ++ List.replicate (xs.length - k) zeroD) k ⟨yC, ynC, ycC, yW, ynW, ycW, yg⟩ (by simp; have := HYL.out; omega)
          rw [put_next ys xs.length k _ _ HYL.out hlt] at e
          rw [← e]
          exact h1
        · exact HC2.out.kp ((((Kp.refl [w.heap.size] w2).setCell (.inl (by simp)) _).setCell (.inl (by simp)) _).setCell (.inl (by simp)) _) (by simp)
        · exact below_set (below_set (below_set HB2.out (by dsimp only; omega) _) (by dsimp only; omega) _) (by dsimp only; omega) _
      case measure => simp [intOf]; omega
    · obtain rfl : k = xs.length := by omega
      have HP := Lib.hid (show ToDS w ds (.returned (.slice (some ⟨w.heap.size, 0, none⟩) xs.length xs.length)) wr by
        have h1 := HO.out
        rw [Nat.sub_self, List.replicate_zero, List.append_nil] at h1
        have h2 : Own encD 3 51 w.heap.size wr (.slice (some ⟨w.heap.size, 0, none⟩) xs.length xs.length) ys := by unfold Own; rw [HYL.out]; exact h1
        obtain ⟨A', cap', e, hc1, hm1, hge, hr⟩ := h2.form
        injection e with e1 e2 e3
        subst e1
        subst e3
        rw [HYL.out] at hc1
        refine ⟨some ⟨w.heap.size, 0, none⟩, xs.length, ys, by rw [HYL.out], hr, by rw [HYL.out, HLN.out], by rw [HYL.out]; exact hc1, hm1, fun i y hy => ?_, fun a ha => by cases ha; exact Nat.le_refl _, HB.out⟩
        obtain ⟨d, g1, g2, g3, g4⟩ := HC.out i y hy
        exact ⟨d, g1, g2, fun a ha => by have := g3 a ha; omega, fun a ha => by have := g4 a ha; omega⟩)
      clear HO HC HR HXX HLN HYL
      generalize xs.length = n at *
      go_wp2_with fail
      go_ret
      exact HP.out

/-- The pool's disks' copy. -/
def ToR (w : World) (ds : List Dk) (e : Ending) (w' : World) : Prop := ∃ (A : Option Addr) (c : Nat) (ys : List DA), e = .returned (.agg #[.slice A ys.length c]) ∧ RRd w' A c ys ds ∧ Below w.heap.size w w'

set_option maxHeartbeats 2000000 in
theorem toRaid_any (w : World) (A : Option Addr) (cap : Nat) (xs : List DA) (ds : List Dk) (h : RRd w A cap xs ds) (hn : xs.length ≤ 1048576) (hx : ∀ x ∈ xs, x.nC ≤ 1048576 ∧ x.nW ≤ 1048576) :
    Calls Try.prog 14 #[.agg #[.slice A xs.length cap]] w (ToR w ds) := by
  have HBw := Lib.hid (below_alloc (below_alloc (below_alloc (Below.refl w.heap.size w) (.cells #[.slice A xs.length cap] 38)) (.cells #[.slice none 0 0] 25)) (.cells #[.slice none 0 0] 25))
  have HT := Lib.hid (toDiskS_any _ A cap xs ds (h.below HBw.out) hn hx)
  clear h hx
  generalize xs.length = n at *
  go_enter Try.func14, Try.ntmps14
  go_wp2_with fail
  refine Calls.mono HT.out ?_
  rintro e w1 ⟨A1, c1, ys, rfl, hr, hl, hc, hm, hC, hF, hB⟩
  have hsz := hB.size
  simp only [World.size_alloc] at hsz
  have HB1 := Lib.hid (below_below HBw.out hB)
  obtain ⟨cc, ff⟩ := bcell hB
  have hz1 : w.heap.size + 1 + 1 < w1.heap.size := by omega
  have hy1 : w.heap.size + 1 < w1.heap.size := by omega
  have KF := Lib.hid (((Kp.refl [w.heap.size + 1, w.heap.size + 1 + 1] w1).setCell (p := ⟨w.heap.size + 1 + 1, 0, none⟩) (.inl (by simp)) (.slice A1 ys.length c1)).setCell (p := ⟨w.heap.size + 1, 0, none⟩) (.inl (by simp)) (.slice A1 ys.length c1))
  have HBF := Lib.hid (below_set (below_set HB1.out (p := ⟨w.heap.size + 1 + 1, 0, none⟩) (by dsimp only; omega) (.slice A1 ys.length c1)) (p := ⟨w.heap.size + 1, 0, none⟩) (by dsimp only; omega) (.slice A1 ys.length c1))
  have HP := Lib.hid (show RRd _ A1 c1 ys ds from ⟨hr.kp KF.out (fun _ a ha hm => by have := hF a ha; simp at this hm; omega), hl.symm, hc, hm, fun i y hy => by
    obtain ⟨d, g1, g2, _⟩ := hC.kp KF.out (by simp) i y hy
    exact ⟨d, g1, g2⟩⟩)
  clear hr hl hC hF hB hsz KF
  have HM := Lib.hid (And.intro hc hm)
  clear hc hm
  generalize hyn : ys.length = m at *
  have HYN := Lib.hid hyn
  clear hyn
  go_wp2_with fail
  refine bodyPost_ret (v := .agg #[.slice A1 m c1]) (by simp [results, Try.results14, go_sem, cc, hy1]) rfl ?_
  exact ⟨A1, c1, ys, by rw [HYN.out], HP.out, HBF.out⟩

end Go.Proofs.Ytamljoffmkcbnaa
