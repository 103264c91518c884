/- Paths, the reference's functions: the last name, the folder, joining, being under. -/
import Derived.Test.YthedmiippfpbnaaGreatDoorPathSpec2
namespace Go.Proofs.YthedmiippfpbnaaGreatDoor
open Go.RowKit
set_option linter.unusedVariables false
set_option linter.unusedSimpArgs false

/-- A row of texts of the call's own: nothing, or a block of it. -/
theorem Own.two {base : Nat} {w : World} {v : Value} {xs : List ByteArray} (h : Own encS 1 9 base w v xs) :
    (xs = [] ∧ ∃ A c, v = .slice A 0 c ∧ c ≤ 9223372036854775807) ∨ (xs ≠ [] ∧ ∃ g cap, v = .slice (some ⟨g, 0, none⟩) xs.length cap ∧ xs.length ≤ cap ∧ cap ≤ 9223372036854775807 ∧ RdT encS 1 w (some ⟨g, 0, none⟩) xs ∧ base ≤ g ∧ g < w.heap.size) := by
  obtain ⟨A, cap, rfl, h1, h2, hf, h3⟩ := h.form
  by_cases hx : xs = []
  · subst hx
    exact .inl ⟨rfl, A, cap, rfl, h2⟩
  · have hn : 0 < xs.length := List.length_pos_iff.2 hx
    rcases h.2 with ⟨hv, h0⟩ | ⟨g, cap', cur, hv, _⟩
    · omega
    · cases hv
      obtain ⟨a, b⟩ := hf _ rfl
      exact .inr ⟨hx, g, cap, rfl, h1, h2, h3, a, b⟩

theorem sub_one_nat (m : Nat) : ((m + 1 : Nat) : Int) - 1 = (m : Int) := by omega

theorem join_yes {s n : ByteArray} (h : pathB s = true) : joinB s n = pathOfB (namesT s ++ [n]) ∧ joinT s n = pathOfT (namesT s ++ [n]) := by
  have : joinB s n = pathOfB (namesT s ++ [n]) := by simp [joinB, h]
  exact ⟨this, by rw [joinT, this]; rfl⟩
theorem join_no {s n : ByteArray} (h : pathB s = false) : joinB s n = false ∧ joinT s n = ⟨#[]⟩ := by
  have : joinB s n = false := by simp [joinB, h]
  exact ⟨this, by rw [joinT, this]; rfl⟩

theorem under_eq {s t : ByteArray} (hs : pathB s = true) (ht : pathB t = true) (h : (namesT t).length ≤ (namesT s).length) : ((pathT ((namesT s).take (namesT t).length)).toList == (pathT (namesT t)).toList) = underB s t := by
  have o1 := all_nameB (namesT_ok hs)
  have o2 := all_nameB (namesT_ok ht)
  have e : underB s t = decide ((namesT s).take (namesT t).length = namesT t) := by simp [underB, hs, ht, h]
  rw [e]
  by_cases he : (namesT s).take (namesT t).length = namesT t
  · rw [he]
    simp
  · have : ¬ (pathT ((namesT s).take (namesT t).length)).toList = (pathT (namesT t)).toList := fun h' => he (by
      rw [Lib.toList_data, Lib.toList_data] at h'
      have h2 := ofL_ext h'
      have h3 := names_pathT (xs := (namesT s).take (namesT t).length) (fun x hx => o1.2 x (List.mem_of_mem_take hx))
      have h4 := names_pathT o2.2
      rw [← h3, h2, h4])
    rw [decide_eq_false he]
    simpa using this
theorem under_no {s t : ByteArray} (h : pathB s = false ∨ pathB t = false ∨ ¬ (namesT t).length ≤ (namesT s).length) : underB s t = false := by
  rcases h with h | h | h <;> simp [underB, h]

end Go.Proofs.YthedmiippfpbnaaGreatDoor
