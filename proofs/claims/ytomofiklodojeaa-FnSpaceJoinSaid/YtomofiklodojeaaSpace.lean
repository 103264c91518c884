/- Space: whether it is valid, and where a free row is: both texts. -/
import Derived.Test.YtomofiklodojeaaIntS
import Derived.Test.YtomofiklodojeaaPtr
namespace Go.Proofs.Ytomofiklodojeaa
open Go.RowKit
set_option linter.unusedVariables false
set_option linter.unusedSimpArgs false

/-- A row of space is valid. -/
def okRow (i : Nat) (n l : Int) : Bool := decide (0 ≤ n ∧ n ≤ l ∧ l ≤ 900 ∧ (n = 0 → l = 0) ∧ (0 < n → 8 ≤ i))
theorem okRow_iff {i : Nat} {n l : Int} : okRow i n l = true ↔ 0 ≤ n ∧ n ≤ l ∧ l ≤ 900 ∧ (n = 0 → l = 0) ∧ (0 < n → 8 ≤ i) := decide_eq_true_iff
theorem okRow_no {i : Nat} {n l : Int} (h : ¬ (0 ≤ n ∧ n ≤ l ∧ l ≤ 900 ∧ (n = 0 → l = 0) ∧ (0 < n → 8 ≤ i))) : okRow i n l = false := by
  cases hr : okRow i n l
  · rfl
  · exact absurd (okRow_iff.1 hr) h
def spaceB (rs ls : List Int) : Bool := decide (rs.length = 64) && (decide (ls.length = 64) && (List.range 64).all fun i => okRow i (rs.getD i 0) (ls.getD i 0))
theorem spaceB_len {rs ls : List Int} (h : ¬ rs.length = 64 ∨ ¬ ls.length = 64) : spaceB rs ls = false := by
  rcases h with h | h <;> simp [spaceB, h]
theorem spaceB_no {rs ls : List Int} {k : Nat} (hk : k < 64) (h : okRow k (rs.getD k 0) (ls.getD k 0) = false) : spaceB rs ls = false := by
  cases hs : spaceB rs ls
  · rfl
  · simp only [spaceB, Bool.and_eq_true, List.all_eq_true] at hs
    have := hs.2.2 k (List.mem_range.2 hk)
    rw [h] at this
    cases this
theorem spaceB_yes {rs ls : List Int} (h1 : rs.length = 64) (h2 : ls.length = 64) (h : ∀ i, i < 64 → okRow i (rs.getD i 0) (ls.getD i 0) = true) : spaceB rs ls = true := by
  simp only [spaceB, Bool.and_eq_true, decide_eq_true_eq, List.all_eq_true]
  exact ⟨h1, h2, fun i hi => h i (List.mem_range.1 hi)⟩

theorem num_at {w : World} {A : Option Addr} {xs : List Int} {k : Nat} (h : RdT encN 1 w A xs) (hk : k < xs.length) :
    ∃ b off, A = some ⟨b, off, none⟩ ∧ b < w.heap.size ∧ w.cell? ⟨b, off + k, none⟩ = some (.int .i64 (xs.getD k 0)) := by
  obtain ⟨b, off, s, rfl, hb, he, c⟩ := h.num hk
  refine ⟨b, off, rfl, hb, ?_⟩
  rw [c]
  have : xs.getD k 0 = s := by simp [List.getD, he]
  rw [this]

set_option maxHeartbeats 1000000 in
theorem spaceOk_any (w : World) (A B : Option Addr) (c d : Nat) (rs ls : List Int) (h : RdT encN 1 w A rs) (g : RdT encN 1 w B ls) (hc : rs.length ≤ c) (hd : ls.length ≤ d) (hcm : c ≤ 9223372036854775807) (hdm : d ≤ 9223372036854775807) :
    Calls Try.prog 24 #[.agg #[.slice A rs.length c, .slice B ls.length d]] w fun e w' => e = .returned (.bool (spaceB rs ls)) ∧ Below w.heap.size w w' := by
  by_cases h1 : rs.length = 64
  · by_cases h2 : ls.length = 64
    · have HR := Lib.hid h
      have HG := Lib.hid g
      have L1 := Lib.hid h1
      have L2 := Lib.hid h2
      rw [h1, h2]
      rw [h1] at hc
      rw [h2] at hd
      clear h g h1 h2
      go_enter Try.func24, Try.ntmps24
      go_wp2_with fail
      go_loopw [19] (fun v wr => ∃ k : Nat, k ≤ 64 ∧ v = .int .i64 k ∧ Hid (∀ i, i < k → okRow i (rs.getD i 0) (ls.getD i 0) = true) ∧ w.alloc (.cells #[.slice A 64 c, .slice B 64 d] 27) = wr) (fun v _ => 64 - (intOf v).toNat)
      case atStart => exact ⟨0, Nat.zero_le _, rfl, Lib.hid (fun i hi => by omega), rfl⟩
      case round =>
        obtain ⟨k, hk, rfl, HK, rfl⟩ := hrel
        by_cases hlt : k < 64
        · obtain ⟨b, off, rfl, hb, c0⟩ := num_at (k := k) HR.out (by rw [L1.out]; exact hlt)
          obtain ⟨b2, off2, rfl, hb2, c1⟩ := num_at (k := k) HG.out (by rw [L2.out]; exact hlt)
          have HN := Lib.hid (fun h => spaceB_no (rs := rs) (ls := ls) hlt h)
          have HK2 := Lib.hid (fun (h : okRow k (rs.getD k 0) (ls.getD k 0) = true) => (show ∀ i, i < k + 1 → okRow i (rs.getD i 0) (ls.getD i 0) = true from fun i hi => by
            rcases Nat.lt_or_ge i k with h' | h'
            · exact HK.out i h'
            · have : i = k := by omega
              subst this; exact h))
          generalize rs.getD k 0 = n at *
          generalize ls.getD k 0 = l at *
          have HW1 := Lib.hid (within_any n 0 900)
          have HW2 := Lib.hid (within_any l n 900)
          cases i1 : inB n 0 900
          · have := inB_false i1
            rw [i1] at HW1
            have E := Lib.hid (HN.out (okRow_no (by omega)))
            clear HN HK2
            go_wp2_with fail
            refine Calls.mono (HW1.out _) ?_
            rintro e w' ⟨rfl, rfl⟩
            go_wp2_with fail
            go_ret
            exact ⟨ret_bool E.out.symm, by (repeat (first | assumption | exact Below.refl _ _ | refine below_alloc ?_ _ | refine Below.drew ?_ | refine below_drewN ?_ _ | refine below_set ?_ (by first | exact Nat.le_refl _ | omega | (simp; done) | (simp; omega)) _ | refine below_kp ?_ (by assumption) (by simp) | refine below_below ?_ (by assumption)))⟩
          · have j1 := inB_true i1
            rw [i1] at HW1
            cases i2 : inB l n 900
            · have := inB_false i2
              rw [i2] at HW2
              have E := Lib.hid (HN.out (okRow_no (by omega)))
              clear HN HK2
              go_wp2_with fail
              refine Calls.mono (HW1.out _) ?_
              rintro e w' ⟨rfl, rfl⟩
              go_wp2_with fail
              refine Calls.mono (HW2.out _) ?_
              rintro e w' ⟨rfl, rfl⟩
              go_wp2_with fail
              go_ret
              exact ⟨ret_bool E.out.symm, by (repeat (first | assumption | exact Below.refl _ _ | refine below_alloc ?_ _ | refine Below.drew ?_ | refine below_drewN ?_ _ | refine below_set ?_ (by first | exact Nat.le_refl _ | omega | (simp; done) | (simp; omega)) _ | refine below_kp ?_ (by assumption) (by simp) | refine below_below ?_ (by assumption)))⟩
            · have j2 := inB_true i2
              rw [i2] at HW2
              by_cases hz : n = 0
              · have z1 : (n == 0) = true := by simpa using hz
                have z3 : ¬ 0 < n := by omega
                by_cases hlz : l = 0
                · have z2 : (l != 0) = false := by simp [bne, hlz]
                  clear i1 i2
                  have HK3 := Lib.hid (HK2.out (okRow_iff.2 (by omega)))
                  clear HN HK2 hz hlz
                  go_wp2_with fail
                  refine Calls.mono (HW1.out _) ?_
                  rintro e w' ⟨rfl, rfl⟩
                  go_wp2_with fail
                  refine Calls.mono (HW2.out _) ?_
                  rintro e w' ⟨rfl, rfl⟩
                  go_wp2_with fail
                  go_roundw
                  case rel => exact ⟨k + 1, by omega, by go_num, HK3, by trivial⟩
                  case measure => simp [intOf]; omega
                · have z2 : (l != 0) = true := by simpa [bne] using hlz
                  clear i1 i2
                  have E := Lib.hid (HN.out (okRow_no (by omega)))
                  clear HN HK2 hz
                  go_wp2_with fail
                  refine Calls.mono (HW1.out _) ?_
                  rintro e w' ⟨rfl, rfl⟩
                  go_wp2_with fail
                  refine Calls.mono (HW2.out _) ?_
                  rintro e w' ⟨rfl, rfl⟩
                  go_wp2_with fail
                  go_ret
                  exact ⟨ret_bool E.out.symm, by (repeat (first | assumption | exact Below.refl _ _ | refine below_alloc ?_ _ | refine Below.drew ?_ | refine below_drewN ?_ _ | refine below_set ?_ (by first | exact Nat.le_refl _ | omega | (simp; done) | (simp; omega)) _ | refine below_kp ?_ (by assumption) (by simp) | refine below_below ?_ (by assumption)))⟩
              · have z1 : (n == 0) = false := by simpa using hz
                have z3 : 0 < n := by omega
                by_cases h8 : (k : Int) < 8
                · clear i1 i2
                  have E := Lib.hid (HN.out (okRow_no (by omega)))
                  clear HN HK2
                  go_wp2_with fail
                  refine Calls.mono (HW1.out _) ?_
                  rintro e w' ⟨rfl, rfl⟩
                  go_wp2_with fail
                  refine Calls.mono (HW2.out _) ?_
                  rintro e w' ⟨rfl, rfl⟩
                  go_wp2_with fail
                  go_ret
                  exact ⟨ret_bool E.out.symm, by (repeat (first | assumption | exact Below.refl _ _ | refine below_alloc ?_ _ | refine Below.drew ?_ | refine below_drewN ?_ _ | refine below_set ?_ (by first | exact Nat.le_refl _ | omega | (simp; done) | (simp; omega)) _ | refine below_kp ?_ (by assumption) (by simp) | refine below_below ?_ (by assumption)))⟩
                · clear i1 i2
                  have HK3 := Lib.hid (HK2.out (okRow_iff.2 (by omega)))
                  clear HN HK2
                  go_wp2_with fail
                  refine Calls.mono (HW1.out _) ?_
                  rintro e w' ⟨rfl, rfl⟩
                  go_wp2_with fail
                  refine Calls.mono (HW2.out _) ?_
                  rintro e w' ⟨rfl, rfl⟩
                  go_wp2_with fail
                  go_roundw
                  case rel => exact ⟨k + 1, by omega, by go_num, HK3, by trivial⟩
                  case measure => simp [intOf]; omega
        · obtain rfl : k = 64 := by omega
          have E := Lib.hid (spaceB_yes L1.out L2.out HK.out)
          go_wp2_with fail
          go_ret
          exact ⟨ret_bool E.out.symm, by (repeat (first | assumption | exact Below.refl _ _ | refine below_alloc ?_ _ | refine Below.drew ?_ | refine below_drewN ?_ _ | refine below_set ?_ (by first | exact Nat.le_refl _ | omega | (simp; done) | (simp; omega)) _ | refine below_kp ?_ (by assumption) (by simp) | refine below_below ?_ (by assumption)))⟩
    · have E := Lib.hid (spaceB_len (rs := rs) (ls := ls) (.inr h2))
      have g2 : ((ls.length : Int) != 64) = true := by simp [bne]; omega
      have g1 : ((rs.length : Int) != 64) = false := by simp [bne]; omega
      clear h g
      go_enter Try.func24, Try.ntmps24
      go_wp2_with fail
      go_ret
      exact ⟨ret_bool E.out.symm, by (repeat (first | assumption | exact Below.refl _ _ | refine below_alloc ?_ _ | refine Below.drew ?_ | refine below_drewN ?_ _ | refine below_set ?_ (by first | exact Nat.le_refl _ | omega | (simp; done) | (simp; omega)) _ | refine below_kp ?_ (by assumption) (by simp) | refine below_below ?_ (by assumption)))⟩
  · have E := Lib.hid (spaceB_len (rs := rs) (ls := ls) (.inl h1))
    have g1 : ((rs.length : Int) != 64) = true := by simp [bne]; omega
    clear h g
    go_enter Try.func24, Try.ntmps24
    go_wp2_with fail
    go_ret
    exact ⟨ret_bool E.out.symm, by (repeat (first | assumption | exact Below.refl _ _ | refine below_alloc ?_ _ | refine Below.drew ?_ | refine below_drewN ?_ _ | refine below_set ?_ (by first | exact Nat.le_refl _ | omega | (simp; done) | (simp; omega)) _ | refine below_kp ?_ (by assumption) (by simp) | refine below_below ?_ (by assumption)))⟩

end Go.Proofs.Ytomofiklodojeaa
