/- A text many times. -/
import Derived.Test.YtamljoffmkcbnaaQuiet
import Derived.Test.YtamljoffmkcbnaaStrS
namespace Go.Proofs.Ytamljoffmkcbnaa
open Go.RowKit Go.Sort
set_option linter.unusedVariables false
set_option linter.unusedSimpArgs false

set_option maxHeartbeats 2000000 in
theorem l6Many_any (s : ByteArray) (n : Nat) (w : World) (hs : s.size ≤ 1000) (hn : n ≤ 1000) : Calls Try.prog 81 #[.string s, .int .i64 n] w fun e w' => (∃ t : ByteArray, e = .returned (.string t) ∧ t.size = n * s.size) ∧ w = w' := by
  have htot : n * s.size ≤ 1000 * 1000 := Nat.mul_le_mul hn hs
  obtain ⟨tot, ht⟩ : ∃ tot, n * s.size = tot := ⟨_, rfl⟩
  have HT := Lib.hid ht
  rw [ht] at htot ⊢
  clear ht
  go_enter Try.func81, Try.ntmps81
  go_wp2_with fail
  go_loop [0, 1, 5] (fun x i o => ∃ (k : Nat) (S O : ByteArray), i = .int .i64 k ∧ x = .string S ∧ o = .string O ∧ k ≤ 1000 ∧ O.size ≤ 1000000 ∧ S.size ≤ 2000000 ∧ Hid (O.size + k * S.size = tot)) (fun _ i _ => (intOf i).toNat)
  case atStart => exact ⟨n, s, ⟨#[]⟩, rfl, rfl, rfl, hn, by decide, by omega, Lib.hid (by have := HT.out; show 0 + n * s.size = tot; omega)⟩
  case round =>
    obtain ⟨k, S, O, rfl, rfl, rfl, hk, hO, hS, HE⟩ := hrel
    by_cases h0 : 0 < k
    · obtain ⟨h, r, hr, hkr⟩ : ∃ h r, r < 2 ∧ k = 2 * h + r := ⟨k / 2, k % 2, Nat.mod_lt _ (by omega), by omega⟩
      have hd1 : (k : Int) / 2 = (h : Int) := by omega
      have hd2 : (k : Int) % 2 = (r : Int) := by omega
      have hd3 : Int.tdiv (k : Int) 2 = (h : Int) := by rw [Int.tdiv_eq_ediv_of_nonneg (by omega)]; exact hd1
      have hd4 : Int.tmod (k : Int) 2 = (r : Int) := by rw [Int.tmod_eq_emod_of_nonneg (by omega)]; exact hd2
      have HK := Lib.hid (show O.size + (2 * (h * S.size) + r * S.size) = tot by
        have := HE.out
        rw [hkr, Nat.add_mul, Nat.mul_assoc] at this
        exact this)
      have h2 : h * (S.size + S.size) = 2 * (h * S.size) := by rw [Nat.mul_add]; omega
      have hk1 : S.size ≤ k * S.size := Nat.le_mul_of_pos_left _ h0
      have hSt : S.size ≤ 1000000 := by have := HE.out; omega
      have q1 : ¬ 9223372036854775807 < O.size + S.size := by omega
      have q2 : ¬ 9223372036854775807 < S.size + S.size := by omega
      have hk3 : (k : Int) ≤ 1000 := by omega
      clear HE hk1 hkr
      by_cases hr1 : r = 1
      · subst hr1
        have hb : ((1 : Int) == 1) = true := rfl
        go_wp2_with fail
        exact ⟨⟨h, S ++ S, O ++ S, rfl, rfl, rfl, by omega, by rw [ByteArray.size_append]; have := HK.out; omega, by rw [ByteArray.size_append]; omega, Lib.hid (by rw [ByteArray.size_append, ByteArray.size_append, h2]; have := HK.out; omega)⟩, by simp [intOf]; omega⟩
      · have hr0 : r = 0 := by omega
        subst hr0
        go_wp2_with fail
        exact ⟨⟨h, S ++ S, O, rfl, rfl, rfl, by omega, hO, by rw [ByteArray.size_append]; omega, Lib.hid (by rw [ByteArray.size_append, h2]; have := HK.out; omega)⟩, by simp [intOf]; omega⟩
    · obtain rfl : k = 0 := by omega
      have HO := Lib.hid (show O.size = tot by have := HE.out; omega)
      go_wp2_with fail
      go_ret
      exact ⟨⟨O, rfl, HO.out⟩, rfl⟩

end Go.Proofs.Ytamljoffmkcbnaa
