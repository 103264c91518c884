/- Space: where a free row is: both texts. -/
import Derived.Test.YtnejbeblkjfcbaaSpace2
import Derived.Test.YtnejbeblkjfcbaaShelf
namespace Go.Proofs.Ytnejbeblkjfcbaa
open Go.RowKit
set_option linter.unusedVariables false
set_option linter.unusedSimpArgs false

theorem containsN_any (w : World) (A : Option Addr) (c : Nat) (xs : List Int) (x : Int) (h : RdT encN 1 w A xs) (hn : xs.length ≤ 9223372036854775807) :
    Calls Try.prog 16 #[.slice A xs.length c, .int .i64 x] w fun e w' => e = .returned (.bool (xs.contains x)) ∧ w = w' := by
  rcases Nat.eq_zero_or_pos xs.length with h0 | h0
  · have : xs = [] := List.length_eq_zero_iff.1 h0
    subst this
    refine (Try.slices_Contains_int_empty A c x w).mono ?_
    rintro e w' ⟨rfl, rfl⟩
    exact ⟨rfl, rfl⟩
  · obtain ⟨b, off, rfl, hb, hr⟩ := h h0
    refine (Try.slices_Contains_int b off xs.length c xs x w (Nat.le_refl _) hn (fun j hj => by
      have := hr j xs[j] (List.getElem?_eq_getElem hj) 0 (by omega)
      simpa [encN, List.getD, List.getElem?_eq_getElem hj] using this)).mono ?_
    rintro e w' ⟨rfl, rfl⟩
    exact ⟨by rw [List.take_length], rfl⟩

set_option maxHeartbeats 1000000 in
theorem l5In_any (w : World) (A : Option Addr) (c : Nat) (xs : List Int) (x : Int) (h : RdT encN 1 w A xs) (hc : xs.length ≤ c) (hm : c ≤ 9223372036854775807) :
    Calls Try.prog 19 #[.slice A xs.length c, .int .i64 x] w fun e w' => e = .returned (.bool (xs.contains x)) ∧ w = w' := by
  have HR := Lib.hid h
  clear h
  go_enter Try.func19, Try.ntmps19
  go_wp2_with fail
  go_loopw [5] (fun v wr => ∃ k : Nat, k ≤ xs.length ∧ v = .int .i64 k ∧ Hid (∀ y ∈ xs.take k, ¬ y = x) ∧ w = wr) (fun v _ => xs.length - (intOf v).toNat)
  case atStart => exact ⟨0, Nat.zero_le _, rfl, Lib.hid (fun y hy => by simp at hy), rfl⟩
  case round =>
    obtain ⟨k, hk, rfl, HK, rfl⟩ := hrel
    by_cases hlt : k < xs.length
    · obtain ⟨b, off, z, rfl, hb, he, c0⟩ := HR.out.num hlt
      by_cases hz : z = x
      · have E := Lib.hid (show xs.contains x = true from List.contains_iff_mem.2 (by rw [← hz]; exact List.mem_of_getElem? he))
        have e1 : (z == x) = true := by simpa using hz
        clear he hz
        go_wp2_with fail
        go_ret
        exact ⟨ret_bool E.out.symm, rfl⟩
      · have e1 : (z == x) = false := by simpa using hz
        have HK2 := Lib.hid (show ∀ y ∈ xs.take (k + 1), ¬ y = x by
          rw [List.take_add_one, he]
          intro y hy
          rcases List.mem_append.1 hy with hy | hy
          · exact HK.out y hy
          · simp at hy; rw [hy]; exact hz)
        clear he hz
        go_wp2_with fail
        exact ⟨⟨k + 1, by omega, by go_num, HK2, by trivial⟩, by simp [intOf]; omega⟩
    · obtain rfl : k = xs.length := by omega
      have E := Lib.hid (show xs.contains x = false by
        cases hc : xs.contains x
        · rfl
        · have := HK.out x (by rw [List.take_length]; exact List.contains_iff_mem.1 hc)
          exact absurd rfl this)
      go_wp2_with fail
      go_ret
      exact ⟨ret_bool E.out.symm, rfl⟩

/-- The place that is asked as the i-th. -/
def placeAt (f : Int) (i : Nat) : Nat := 8 + ((f - 8).toNat + i) % 56
def findAt (rs but : List Int) (f : Int) : Nat → Nat → Int
  | 0, _ => -1
  | m + 1, i => if (rs.getD (placeAt f i) 0 == 0 && !but.contains (placeAt f i : Int)) = true then (placeAt f i : Int) else findAt rs but f m (i + 1)
def fromOf (f : Int) : Int := if inB f 8 63 = true then f else 8
def findOf (rs ls but : List Int) (f : Int) : Int := if spaceB rs ls = true then findAt rs but (fromOf f) 56 0 else -1
theorem fromOf_in (f : Int) : 8 ≤ fromOf f ∧ fromOf f ≤ 63 := by
  unfold fromOf
  split
  · next h => exact inB_true h
  · omega
theorem place_eq {f : Int} (h1 : 8 ≤ f) (h2 : f ≤ 63) (i : Nat) : (8 : Int) + (f - 8 + (i : Int)) % 56 = (placeAt f i : Int) ∧ placeAt f i < 64 := by
  unfold placeAt
  refine ⟨?_, by omega⟩
  have : f - 8 = ((f - 8).toNat : Int) := by omega
  rw [this]
  simp
theorem findAt_hit {rs but : List Int} {f : Int} {m i : Nat} (h : rs.getD (placeAt f i) 0 = 0) (hb : but.contains (placeAt f i : Int) = false) : findAt rs but f (m + 1) i = (placeAt f i : Int) := by
  rw [findAt, if_pos (by rw [h, hb]; rfl)]
theorem findAt_no {rs but : List Int} {f : Int} {m i : Nat} (h : ¬ rs.getD (placeAt f i) 0 = 0 ∨ but.contains (placeAt f i : Int) = true) : findAt rs but f (m + 1) i = findAt rs but f m (i + 1) := by
  rw [findAt, if_neg]
  rcases h with h | h
  · have : (rs.getD (placeAt f i) 0 == 0) = false := by simpa using h
    rw [this]; simp
  · rw [h]; simp
/-- The search at the k-th place. -/
def Left (rs but : List Int) (f R : Int) (k : Nat) : Prop := findAt rs but f (56 - k) k = R
theorem left_hit {rs but : List Int} {f R : Int} {k : Nat} (hk : k < 56) (h : Left rs but f R k) (h0 : rs.getD (placeAt f k) 0 = 0) (hb : but.contains (placeAt f k : Int) = false) : (placeAt f k : Int) = R := by
  unfold Left at h
  rw [show 56 - k = (55 - k) + 1 by omega, findAt_hit h0 hb] at h
  exact h
theorem left_no {rs but : List Int} {f R : Int} {k : Nat} (hk : k < 56) (h : Left rs but f R k) (h0 : ¬ rs.getD (placeAt f k) 0 = 0 ∨ but.contains (placeAt f k : Int) = true) : Left rs but f R (k + 1) := by
  unfold Left at h ⊢
  rw [show 56 - k = (55 - k) + 1 by omega, findAt_no h0] at h
  rw [show 56 - (k + 1) = 55 - k by omega]
  exact h
theorem left_end {rs but : List Int} {f R : Int} (h : Left rs but f R 56) : -1 = R := by
  unfold Left at h
  simpa [findAt] using h

set_option maxHeartbeats 2000000 in
theorem l5Find_any (w : World) (A B C : Option Addr) (c d b : Nat) (rs ls but : List Int) (f : Int) (h : RdT encN 1 w A rs) (hbt : RdT encN 1 w C but) (h64 : rs.length = 64) (hc : 64 ≤ c) (hb : but.length ≤ b) (hbm : b ≤ 9223372036854775807) (hcm : c ≤ 9223372036854775807) :
    Calls Try.prog 13 #[.agg #[.slice A 64 c, .slice B ls.length d], .int .i64 f, .slice C but.length b] w fun e w' => e = .returned (.int .i64 (findAt rs but (fromOf f) 56 0)) ∧ Below w.heap.size w w' := by
  have HR := Lib.hid h
  have HT := Lib.hid hbt
  have L1 := Lib.hid h64
  have HF := Lib.hid (fromOf_in f)
  have HW := Lib.hid (l2Row_any f)
  generalize hR : findAt rs but (fromOf f) 56 0 = R
  have HR0 := Lib.hid (show Left rs but (fromOf f) R 0 from hR)
  clear h hbt h64 hR
  cases hin : inB f 8 63
  · rw [hin] at HW
    have hfo : fromOf f = 8 := by rw [fromOf, hin, if_neg (by decide)]
    rw [hfo] at HF HR0
    have f1 : (8 : Int) ≤ 8 := HF.out.1
    have f2 : (8 : Int) ≤ 63 := HF.out.2
    clear hfo HF hin
    go_enter Try.func13, Try.ntmps13
    go_wp2_with fail
    refine Calls.mono (HW.out _) ?_
    rintro e w' ⟨rfl, rfl⟩
    go_wp2_with fail
    go_loopw [8] (fun v wr => ∃ k : Nat, k ≤ 56 ∧ v = .int .i64 k ∧ Hid (Left rs but 8 R k) ∧ w.alloc (.cells #[.slice A 64 c, .slice B ls.length d] 27) = wr) (fun v _ => 56 - (intOf v).toNat)
    case atStart => exact ⟨0, Nat.zero_le _, rfl, HR0, rfl⟩
    case round =>
      obtain ⟨k, hk, rfl, HK, rfl⟩ := hrel
      by_cases hlt : k < 56
      · obtain ⟨p1, p2⟩ := place_eq f1 f2 k
        obtain ⟨b1, off, rfl, hb1, c0⟩ := num_at (k := placeAt 8 k) HR.out (by rw [L1.out]; exact p2)
        have HIT := Lib.hid (left_hit hlt HK.out)
        have NO := Lib.hid (left_no hlt HK.out)
        have w1 : IntKind.i64.wrap ((8 : Int) - 8) = (8 : Int) - 8 := IntWalk.i64_in _ (by omega)
        have w2 : IntKind.i64.wrap ((8 : Int) - 8 + (k : Int)) = (8 : Int) - 8 + (k : Int) := IntWalk.i64_in _ (by omega)
        have p3 : IntKind.i64.wrap ((8 : Int) + ((8 : Int) - 8 + (k : Int)) % 56) = (8 : Int) + ((8 : Int) - 8 + (k : Int)) % 56 := IntWalk.i64_in _ (by omega)
        have p4 : (8 : Int) + (k : Int) % 56 = (placeAt 8 k : Int) := by have := p1; simpa using this
        have p5 : (8 : Int) - 8 + (k : Int) = (k : Int) := by omega
        generalize hpl : placeAt 8 k = a at *
        generalize rs.getD a 0 = n at *
        have HC := Lib.hid (fun w (h : RdT encN 1 w C but) => l5In_any w C b but (a : Int) h hb hbm)
        by_cases hn : n = 0
        · have n1 : (n == 0) = true := by simpa using hn
          cases hct : but.contains (a : Int)
          · have E := Lib.hid (HIT.out hn hct)
            rw [hct] at HC
            clear HIT NO hn
            go_wp2_with fail
            refine Calls.mono (HC.out _ (HT.out.below (by (repeat (first | assumption | exact Below.refl _ _ | refine below_alloc ?_ _ | refine Below.drew ?_ | refine below_drewN ?_ _ | refine below_set ?_ (by first | exact Nat.le_refl _ | omega | (simp; done) | (simp; omega)) _ | refine below_kp ?_ (by assumption) (by simp) | refine below_below ?_ (by assumption)))))) ?_
            rintro e w' ⟨rfl, rfl⟩
            go_wp2_with fail
            go_ret
            exact ⟨ret_int E.out, by (repeat (first | assumption | exact Below.refl _ _ | refine below_alloc ?_ _ | refine Below.drew ?_ | refine below_drewN ?_ _ | refine below_set ?_ (by first | exact Nat.le_refl _ | omega | (simp; done) | (simp; omega)) _ | refine below_kp ?_ (by assumption) (by simp) | refine below_below ?_ (by assumption)))⟩
          · have HK2 := Lib.hid (NO.out (.inr hct))
            rw [hct] at HC
            clear HIT NO hn
            go_wp2_with fail
            refine Calls.mono (HC.out _ (HT.out.below (by (repeat (first | assumption | exact Below.refl _ _ | refine below_alloc ?_ _ | refine Below.drew ?_ | refine below_drewN ?_ _ | refine below_set ?_ (by first | exact Nat.le_refl _ | omega | (simp; done) | (simp; omega)) _ | refine below_kp ?_ (by assumption) (by simp) | refine below_below ?_ (by assumption)))))) ?_
            rintro e w' ⟨rfl, rfl⟩
            go_wp2_with fail
            go_roundw
            case rel => exact ⟨k + 1, by omega, by go_num, HK2, by trivial⟩
            case measure => simp [intOf]; omega
        · have n1 : (n == 0) = false := by simpa using hn
          have HK2 := Lib.hid (NO.out (.inl hn))
          clear HIT NO hn
          go_wp2_with fail
          go_roundw
          case rel => exact ⟨k + 1, by omega, by go_num, HK2, by trivial⟩
          case measure => simp [intOf]; omega
      · obtain rfl : k = 56 := by omega
        have E := Lib.hid (left_end HK.out)
        go_wp2_with fail
        go_ret
        exact ⟨ret_int E.out, by (repeat (first | assumption | exact Below.refl _ _ | refine below_alloc ?_ _ | refine Below.drew ?_ | refine below_drewN ?_ _ | refine below_set ?_ (by first | exact Nat.le_refl _ | omega | (simp; done) | (simp; omega)) _ | refine below_kp ?_ (by assumption) (by simp) | refine below_below ?_ (by assumption)))⟩
  · rw [hin] at HW
    have hfo : fromOf f = f := by rw [fromOf, hin, if_pos rfl]
    rw [hfo] at HF HR0
    have f1 : (8 : Int) ≤ f := HF.out.1
    have f2 : (f : Int) ≤ 63 := HF.out.2
    clear hfo HF hin
    go_enter Try.func13, Try.ntmps13
    go_wp2_with fail
    refine Calls.mono (HW.out _) ?_
    rintro e w' ⟨rfl, rfl⟩
    go_wp2_with fail
    go_loopw [8] (fun v wr => ∃ k : Nat, k ≤ 56 ∧ v = .int .i64 k ∧ Hid (Left rs but f R k) ∧ w.alloc (.cells #[.slice A 64 c, .slice B ls.length d] 27) = wr) (fun v _ => 56 - (intOf v).toNat)
    case atStart => exact ⟨0, Nat.zero_le _, rfl, HR0, rfl⟩
    case round =>
      obtain ⟨k, hk, rfl, HK, rfl⟩ := hrel
      by_cases hlt : k < 56
      · obtain ⟨p1, p2⟩ := place_eq f1 f2 k
        obtain ⟨b1, off, rfl, hb1, c0⟩ := num_at (k := placeAt f k) HR.out (by rw [L1.out]; exact p2)
        have HIT := Lib.hid (left_hit hlt HK.out)
        have NO := Lib.hid (left_no hlt HK.out)
        have w1 : IntKind.i64.wrap ((f : Int) - 8) = (f : Int) - 8 := IntWalk.i64_in _ (by omega)
        have w2 : IntKind.i64.wrap ((f : Int) - 8 + (k : Int)) = (f : Int) - 8 + (k : Int) := IntWalk.i64_in _ (by omega)
        have p3 : IntKind.i64.wrap ((8 : Int) + ((f : Int) - 8 + (k : Int)) % 56) = (8 : Int) + ((f : Int) - 8 + (k : Int)) % 56 := IntWalk.i64_in _ (by omega)
        generalize hpl : placeAt f k = a at *
        generalize rs.getD a 0 = n at *
        have HC := Lib.hid (fun w (h : RdT encN 1 w C but) => l5In_any w C b but (a : Int) h hb hbm)
        by_cases hn : n = 0
        · have n1 : (n == 0) = true := by simpa using hn
          cases hct : but.contains (a : Int)
          · have E := Lib.hid (HIT.out hn hct)
            rw [hct] at HC
            clear HIT NO hn
            go_wp2_with fail
            refine Calls.mono (HC.out _ (HT.out.below (by (repeat (first | assumption | exact Below.refl _ _ | refine below_alloc ?_ _ | refine Below.drew ?_ | refine below_drewN ?_ _ | refine below_set ?_ (by first | exact Nat.le_refl _ | omega | (simp; done) | (simp; omega)) _ | refine below_kp ?_ (by assumption) (by simp) | refine below_below ?_ (by assumption)))))) ?_
            rintro e w' ⟨rfl, rfl⟩
            go_wp2_with fail
            go_ret
            exact ⟨ret_int E.out, by (repeat (first | assumption | exact Below.refl _ _ | refine below_alloc ?_ _ | refine Below.drew ?_ | refine below_drewN ?_ _ | refine below_set ?_ (by first | exact Nat.le_refl _ | omega | (simp; done) | (simp; omega)) _ | refine below_kp ?_ (by assumption) (by simp) | refine below_below ?_ (by assumption)))⟩
          · have HK2 := Lib.hid (NO.out (.inr hct))
            rw [hct] at HC
            clear HIT NO hn
            go_wp2_with fail
            refine Calls.mono (HC.out _ (HT.out.below (by (repeat (first | assumption | exact Below.refl _ _ | refine below_alloc ?_ _ | refine Below.drew ?_ | refine below_drewN ?_ _ | refine below_set ?_ (by first | exact Nat.le_refl _ | omega | (simp; done) | (simp; omega)) _ | refine below_kp ?_ (by assumption) (by simp) | refine below_below ?_ (by assumption)))))) ?_
            rintro e w' ⟨rfl, rfl⟩
            go_wp2_with fail
            go_roundw
            case rel => exact ⟨k + 1, by omega, by go_num, HK2, by trivial⟩
            case measure => simp [intOf]; omega
        · have n1 : (n == 0) = false := by simpa using hn
          have HK2 := Lib.hid (NO.out (.inl hn))
          clear HIT NO hn
          go_wp2_with fail
          go_roundw
          case rel => exact ⟨k + 1, by omega, by go_num, HK2, by trivial⟩
          case measure => simp [intOf]; omega
      · obtain rfl : k = 56 := by omega
        have E := Lib.hid (left_end HK.out)
        go_wp2_with fail
        go_ret
        exact ⟨ret_int E.out, by (repeat (first | assumption | exact Below.refl _ _ | refine below_alloc ?_ _ | refine Below.drew ?_ | refine below_drewN ?_ _ | refine below_set ?_ (by first | exact Nat.le_refl _ | omega | (simp; done) | (simp; omega)) _ | refine below_kp ?_ (by assumption) (by simp) | refine below_below ?_ (by assumption)))⟩

end Go.Proofs.Ytnejbeblkjfcbaa
