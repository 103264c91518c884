/- Checksums; a pointer held against a text: both texts. -/
import Derived.Test.YtamljoffmkcbnaaPtr
import Derived.Test.YtamljoffmkcbnaaQuiet
namespace Go.Proofs.Ytamljoffmkcbnaa
open Go.RowKit Go.Sort
set_option maxRecDepth 100000
set_option linter.unusedVariables false
set_option linter.unusedSimpArgs false

def sumGo : List UInt8 → Int → Int → Int × Int
  | [], a, b => (a, b)
  | c :: r, a, b => sumGo r ((a + (c.toNat : Int) + 1) % 9973) (((a + (c.toNat : Int) + 1) % 9973 + b) % 9973)
def sumL (l : List UInt8) : Int := (sumGo l 1 0).1 * 9973 + (sumGo l 1 0).2
theorem sum_step (s : ByteArray) (k : Nat) (h : k < s.size) (a b : Int) : sumGo (s.data.toList.drop k) a b = sumGo (s.data.toList.drop (k + 1)) ((a + ((s[k]).toNat : Int) + 1) % 9973) (((a + ((s[k]).toNat : Int) + 1) % 9973 + b) % 9973) := by
  have h' : k < s.data.toList.length := by rw [Array.length_toList]; exact h
  rw [List.drop_eq_getElem_cons h', sumGo]
  rfl
theorem sum_end (s : ByteArray) {a b : Int} (h : sumGo s.data.toList 1 0 = sumGo (s.data.toList.drop s.size) a b) : sumL s.data.toList = a * 9973 + b := by
  have e : s.data.toList.drop s.size = [] := List.drop_of_length_le (by rw [Array.length_toList]; exact Nat.le_refl _)
  rw [e] at h
  simp [sumL, h, sumGo]
theorem mod_in (x : Int) : 0 ≤ x % 9973 ∧ x % 9973 < 9973 := ⟨Int.emod_nonneg _ (by omega), Int.emod_lt_of_pos _ (by omega)⟩

set_option maxHeartbeats 1000000 in
theorem sumOf_any (s : ByteArray) (w : World) (hs : s.size ≤ 9223372036854775807) : Calls Try.prog 23 #[.string s] w fun e w' => e = .returned (.int .i64 (sumL s.data.toList)) ∧ w = w' := by
  have HE := Lib.hid (fun a b h => sum_end s (a := a) (b := b) h)
  generalize sumL s.data.toList = r at *
  go_enter Try.func23, Try.ntmps23
  go_wp2_with fail
  go_loop [3, 4, 8] (fun x y i => ∃ (k : Nat) (a b : Int), k ≤ s.size ∧ i = .int .i64 k ∧ x = .int .i64 a ∧ y = .int .i64 b ∧ 0 ≤ a ∧ a < 9973 ∧ 0 ≤ b ∧ b < 9973 ∧ Hid (sumGo s.data.toList 1 0 = sumGo (s.data.toList.drop k) a b)) (fun _ _ i => s.size - (intOf i).toNat)
  case atStart => exact ⟨0, 1, 0, Nat.zero_le _, rfl, rfl, rfl, by omega, by omega, by omega, by omega, Lib.hid (by simp)⟩
  case round =>
    obtain ⟨k, a, b, hk, rfl, rfl, rfl, ha0, ha1, hb0, hb1, HS⟩ := hrel
    by_cases hlt : k < s.size
    · have HS2 := Lib.hid (HS.out.trans (sum_step s k hlt a b))
      have hby : (s[k]).toNat < 256 := (s[k]).toNat_lt
      have hm1 := mod_in (a + ((s[k]).toNat : Int) + 1)
      have hm2 := mod_in ((a + ((s[k]).toNat : Int) + 1) % 9973 + b)
      obtain ⟨m10, m11⟩ := hm1
      obtain ⟨m20, m21⟩ := hm2
      clear HS
      go_wp2_with fail
      exact ⟨⟨k + 1, _, _, by omega, by go_num, rfl, rfl, m10, m11, m20, m21, HS2⟩, by simp [intOf]; omega⟩
    · obtain rfl : k = s.size := by omega
      have HR := Lib.hid (HE.out a b HS.out)
      clear HS HE
      go_wp2_with fail
      go_ret
      exact ⟨ret_int HR.out.symm, rfl⟩

set_option maxHeartbeats 1000000 in
theorem specSumOf_any (s : ByteArray) (w : World) (hs : s.size ≤ 9223372036854775807) : Calls Try.prog 85 #[.string s] w fun e w' => e = .returned (.int .i64 (sumL s.data.toList)) ∧ w = w' := by
  have HE := Lib.hid (fun a b h => sum_end s (a := a) (b := b) h)
  generalize sumL s.data.toList = r at *
  go_enter Try.func85, Try.ntmps85
  go_wp2_with fail
  go_loop [3, 4, 5] (fun x y i => ∃ (k : Nat) (a b : Int), k ≤ s.size ∧ i = .int .i64 k ∧ x = .int .i64 a ∧ y = .int .i64 b ∧ 0 ≤ a ∧ a < 9973 ∧ 0 ≤ b ∧ b < 9973 ∧ Hid (sumGo s.data.toList 1 0 = sumGo (s.data.toList.drop k) a b)) (fun _ _ i => s.size - (intOf i).toNat)
  case atStart => exact ⟨0, 1, 0, Nat.zero_le _, rfl, rfl, rfl, by omega, by omega, by omega, by omega, Lib.hid (by simp)⟩
  case round =>
    obtain ⟨k, a, b, hk, rfl, rfl, rfl, ha0, ha1, hb0, hb1, HS⟩ := hrel
    by_cases hlt : k < s.size
    · have HS2 := Lib.hid (HS.out.trans (sum_step s k hlt a b))
      have hby : (s[k]).toNat < 256 := (s[k]).toNat_lt
      have hm1 := mod_in (a + ((s[k]).toNat : Int) + 1)
      have hm2 := mod_in ((a + ((s[k]).toNat : Int) + 1) % 9973 + b)
      obtain ⟨m10, m11⟩ := hm1
      obtain ⟨m20, m21⟩ := hm2
      clear HS
      go_wp2_with fail
      exact ⟨⟨k + 1, _, _, by omega, by go_num, rfl, by rw [Int.add_comm b], m10, m11, m20, m21, HS2⟩, by simp [intOf]; omega⟩
    · obtain rfl : k = s.size := by omega
      have HR := Lib.hid (HE.out a b HS.out)
      clear HS HE
      go_wp2_with fail
      go_ret
      exact ⟨ret_int HR.out.symm, rfl⟩

/-- A pointer leads to a text. -/
def fitsB (p : Pt) (s : ByteArray) : Bool := ptrB p && (!holeB p && (p.size == (s.size : Int) && p.sum == sumL s.data.toList))

set_option maxHeartbeats 2000000 in
theorem ptrFits_any (p : Pt) (s : ByteArray) (w : World) (hs : s.size ≤ 9223372036854775807) : Calls Try.prog 19 #[p.v, .string s] w fun e w' => e = .returned (.bool (fitsB p s)) ∧ Below w.heap.size w w' := by
  have HP := Lib.hid (ptrOk_any p)
  have HH := Lib.hid (ptrHole_any p)
  have HS := Lib.hid (fun w => sumOf_any s w hs)
  unfold fitsB
  obtain ⟨pa, pb, ps, pu, pl⟩ := p
  unfold Pt.v at *
  dsimp only at *
  generalize sumL s.data.toList = r at *
  cases h1 : ptrB ⟨pa, pb, ps, pu, pl⟩
  · rw [h1] at HP
    clear h1
    go_enter Try.func19, Try.ntmps19
    go_wp2_with fail
    refine wp_quiet_b (by kernel_rfl) (by kernel_rfl) (fun hgrow => ?_)
    repeat (go_big_quiet_step ((go_at_call 25; exact quiet_b (HP.out _))))
    refine wpQuiet_nil ?_
    intro w2 hww2
    replace hww2 := below_of_regrown hww2
    clear hgrow
    go_wp2_with fail
    go_ret
    exact ⟨rfl, by have := hww2; (repeat (first | assumption | exact Below.refl _ _ | refine below_alloc ?_ _ | refine Below.drew ?_ | refine below_drewN ?_ _ | refine below_set ?_ (by first | exact Nat.le_refl _ | omega | (simp; done) | (simp; omega)) _ | refine below_kp ?_ (by assumption) (by simp) | refine below_below ?_ (by assumption)))⟩
  · rw [h1] at HP
    clear h1
    cases h2 : holeB ⟨pa, pb, ps, pu, pl⟩
    · rw [h2] at HH
      clear h2
      by_cases h3 : ps = (s.size : Int)
      · by_cases h4 : pu = r
        · have e3 : (ps == (s.size : Int)) = true := by simpa using h3
          have e4 : (pu == r) = true := by simpa using h4
          rw [e3, e4]
          clear h3 h4
          go_enter Try.func19, Try.ntmps19
          go_wp2_with fail
          refine wp_quiet_b (by kernel_rfl) (by kernel_rfl) (fun hgrow => ?_)
          repeat (go_big_quiet_step ((first | (go_at_call 25; exact quiet_b (HP.out _)) | (go_at_call 26; exact quiet_b (HH.out _)) | (go_at_call 23; exact quiet_s (HS.out _)))))
          refine wpQuiet_nil ?_
          intro w2 hww2
          replace hww2 := below_of_regrown hww2
          clear hgrow
          go_wp2_with fail
          go_ret
          exact ⟨rfl, by have := hww2; (repeat (first | assumption | exact Below.refl _ _ | refine below_alloc ?_ _ | refine Below.drew ?_ | refine below_drewN ?_ _ | refine below_set ?_ (by first | exact Nat.le_refl _ | omega | (simp; done) | (simp; omega)) _ | refine below_kp ?_ (by assumption) (by simp) | refine below_below ?_ (by assumption)))⟩
        · have e3 : (ps == (s.size : Int)) = true := by simpa using h3
          have e4 : (pu == r) = false := by simpa using h4
          rw [e3, e4]
          clear h3 h4
          go_enter Try.func19, Try.ntmps19
          go_wp2_with fail
          refine wp_quiet_b (by kernel_rfl) (by kernel_rfl) (fun hgrow => ?_)
          repeat (go_big_quiet_step ((first | (go_at_call 25; exact quiet_b (HP.out _)) | (go_at_call 26; exact quiet_b (HH.out _)) | (go_at_call 23; exact quiet_s (HS.out _)))))
          refine wpQuiet_nil ?_
          intro w2 hww2
          replace hww2 := below_of_regrown hww2
          clear hgrow
          go_wp2_with fail
          go_ret
          exact ⟨rfl, by have := hww2; (repeat (first | assumption | exact Below.refl _ _ | refine below_alloc ?_ _ | refine Below.drew ?_ | refine below_drewN ?_ _ | refine below_set ?_ (by first | exact Nat.le_refl _ | omega | (simp; done) | (simp; omega)) _ | refine below_kp ?_ (by assumption) (by simp) | refine below_below ?_ (by assumption)))⟩
      · have e3 : (ps == (s.size : Int)) = false := by simpa using h3
        rw [e3]
        clear h3
        go_enter Try.func19, Try.ntmps19
        go_wp2_with fail
        refine wp_quiet_b (by kernel_rfl) (by kernel_rfl) (fun hgrow => ?_)
        repeat (go_big_quiet_step ((first | (go_at_call 25; exact quiet_b (HP.out _)) | (go_at_call 26; exact quiet_b (HH.out _)) | (go_at_call 23; exact quiet_s (HS.out _)))))
        refine wpQuiet_nil ?_
        intro w2 hww2
        replace hww2 := below_of_regrown hww2
        clear hgrow
        go_wp2_with fail
        go_ret
        exact ⟨rfl, by have := hww2; (repeat (first | assumption | exact Below.refl _ _ | refine below_alloc ?_ _ | refine Below.drew ?_ | refine below_drewN ?_ _ | refine below_set ?_ (by first | exact Nat.le_refl _ | omega | (simp; done) | (simp; omega)) _ | refine below_kp ?_ (by assumption) (by simp) | refine below_below ?_ (by assumption)))⟩
    · rw [h2] at HH
      clear h2
      go_enter Try.func19, Try.ntmps19
      go_wp2_with fail
      refine wp_quiet_b (by kernel_rfl) (by kernel_rfl) (fun hgrow => ?_)
      repeat (go_big_quiet_step ((first | (go_at_call 25; exact quiet_b (HP.out _)) | (go_at_call 26; exact quiet_b (HH.out _)))))
      refine wpQuiet_nil ?_
      intro w2 hww2
      replace hww2 := below_of_regrown hww2
      clear hgrow
      go_wp2_with fail
      go_ret
      exact ⟨rfl, by have := hww2; (repeat (first | assumption | exact Below.refl _ _ | refine below_alloc ?_ _ | refine Below.drew ?_ | refine below_drewN ?_ _ | refine below_set ?_ (by first | exact Nat.le_refl _ | omega | (simp; done) | (simp; omega)) _ | refine below_kp ?_ (by assumption) (by simp) | refine below_below ?_ (by assumption)))⟩

set_option maxHeartbeats 2000000 in
theorem specPtrFits_any (p : Pt) (s : ByteArray) (w : World) (hs : s.size ≤ 9223372036854775807) : Calls Try.prog 59 #[p.v, .string s] w fun e w' => e = .returned (.bool (fitsB p s)) ∧ Below w.heap.size w w' := by
  have HP := Lib.hid (specPtrOk_any p)
  have HH := Lib.hid (specPtrHole_any p)
  have HS := Lib.hid (fun w => specSumOf_any s w hs)
  unfold fitsB
  obtain ⟨pa, pb, ps, pu, pl⟩ := p
  unfold Pt.v at *
  dsimp only at *
  generalize sumL s.data.toList = r at *
  cases h1 : ptrB ⟨pa, pb, ps, pu, pl⟩
  · rw [h1] at HP
    clear h1
    go_enter Try.func59, Try.ntmps59
    go_wp2_with fail
    refine wp_quiet_b (by kernel_rfl) (by kernel_rfl) (fun hgrow => ?_)
    repeat (go_big_quiet_step ((go_at_call 33; exact quiet_b (HP.out _))))
    refine wpQuiet_nil ?_
    intro w2 hww2
    replace hww2 := below_of_regrown hww2
    clear hgrow
    go_wp2_with fail
    go_ret
    exact ⟨rfl, by have := hww2; (repeat (first | assumption | exact Below.refl _ _ | refine below_alloc ?_ _ | refine Below.drew ?_ | refine below_drewN ?_ _ | refine below_set ?_ (by first | exact Nat.le_refl _ | omega | (simp; done) | (simp; omega)) _ | refine below_kp ?_ (by assumption) (by simp) | refine below_below ?_ (by assumption)))⟩
  · rw [h1] at HP
    clear h1
    cases h2 : holeB ⟨pa, pb, ps, pu, pl⟩
    · rw [h2] at HH
      clear h2
      by_cases h3 : ps = (s.size : Int)
      · by_cases h4 : pu = r
        · have e3 : (ps == (s.size : Int)) = true := by simpa using h3
          have e4 : (pu == r) = true := by simpa using h4
          rw [e3, e4]
          clear h3 h4
          go_enter Try.func59, Try.ntmps59
          go_wp2_with fail
          refine wp_quiet_b (by kernel_rfl) (by kernel_rfl) (fun hgrow => ?_)
          repeat (go_big_quiet_step ((first | (go_at_call 33; exact quiet_b (HP.out _)) | (go_at_call 34; exact quiet_b (HH.out _)) | (go_at_call 85; exact quiet_s (HS.out _)))))
          refine wpQuiet_nil ?_
          intro w2 hww2
          replace hww2 := below_of_regrown hww2
          clear hgrow
          go_wp2_with fail
          go_ret
          exact ⟨rfl, by have := hww2; (repeat (first | assumption | exact Below.refl _ _ | refine below_alloc ?_ _ | refine Below.drew ?_ | refine below_drewN ?_ _ | refine below_set ?_ (by first | exact Nat.le_refl _ | omega | (simp; done) | (simp; omega)) _ | refine below_kp ?_ (by assumption) (by simp) | refine below_below ?_ (by assumption)))⟩
        · have e3 : (ps == (s.size : Int)) = true := by simpa using h3
          have e4 : (pu == r) = false := by simpa using h4
          rw [e3, e4]
          clear h3 h4
          go_enter Try.func59, Try.ntmps59
          go_wp2_with fail
          refine wp_quiet_b (by kernel_rfl) (by kernel_rfl) (fun hgrow => ?_)
          repeat (go_big_quiet_step ((first | (go_at_call 33; exact quiet_b (HP.out _)) | (go_at_call 34; exact quiet_b (HH.out _)) | (go_at_call 85; exact quiet_s (HS.out _)))))
          refine wpQuiet_nil ?_
          intro w2 hww2
          replace hww2 := below_of_regrown hww2
          clear hgrow
          go_wp2_with fail
          go_ret
          exact ⟨rfl, by have := hww2; (repeat (first | assumption | exact Below.refl _ _ | refine below_alloc ?_ _ | refine Below.drew ?_ | refine below_drewN ?_ _ | refine below_set ?_ (by first | exact Nat.le_refl _ | omega | (simp; done) | (simp; omega)) _ | refine below_kp ?_ (by assumption) (by simp) | refine below_below ?_ (by assumption)))⟩
      · have e3 : (ps == (s.size : Int)) = false := by simpa using h3
        rw [e3]
        clear h3
        go_enter Try.func59, Try.ntmps59
        go_wp2_with fail
        refine wp_quiet_b (by kernel_rfl) (by kernel_rfl) (fun hgrow => ?_)
        repeat (go_big_quiet_step ((first | (go_at_call 33; exact quiet_b (HP.out _)) | (go_at_call 34; exact quiet_b (HH.out _)) | (go_at_call 85; exact quiet_s (HS.out _)))))
        refine wpQuiet_nil ?_
        intro w2 hww2
        replace hww2 := below_of_regrown hww2
        clear hgrow
        go_wp2_with fail
        go_ret
        exact ⟨rfl, by have := hww2; (repeat (first | assumption | exact Below.refl _ _ | refine below_alloc ?_ _ | refine Below.drew ?_ | refine below_drewN ?_ _ | refine below_set ?_ (by first | exact Nat.le_refl _ | omega | (simp; done) | (simp; omega)) _ | refine below_kp ?_ (by assumption) (by simp) | refine below_below ?_ (by assumption)))⟩
    · rw [h2] at HH
      clear h2
      go_enter Try.func59, Try.ntmps59
      go_wp2_with fail
      refine wp_quiet_b (by kernel_rfl) (by kernel_rfl) (fun hgrow => ?_)
      repeat (go_big_quiet_step ((first | (go_at_call 33; exact quiet_b (HP.out _)) | (go_at_call 34; exact quiet_b (HH.out _)))))
      refine wpQuiet_nil ?_
      intro w2 hww2
      replace hww2 := below_of_regrown hww2
      clear hgrow
      go_wp2_with fail
      go_ret
      exact ⟨rfl, by have := hww2; (repeat (first | assumption | exact Below.refl _ _ | refine below_alloc ?_ _ | refine Below.drew ?_ | refine below_drewN ?_ _ | refine below_set ?_ (by first | exact Nat.le_refl _ | omega | (simp; done) | (simp; omega)) _ | refine below_kp ?_ (by assumption) (by simp) | refine below_below ?_ (by assumption)))⟩

end Go.Proofs.Ytamljoffmkcbnaa
