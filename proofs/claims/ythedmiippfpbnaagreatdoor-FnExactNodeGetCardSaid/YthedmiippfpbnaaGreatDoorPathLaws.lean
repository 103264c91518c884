/- What the functions of paths return, and how they fit together, in plain Lean. -/
import Derived.Test.YthedmiippfpbnaaGreatDoorPathPlain
namespace Go.Proofs.YthedmiippfpbnaaGreatDoor
open Go.RowKit
set_option linter.unusedVariables false

def baseT (s : ByteArray) : ByteArray := ((namesT s).getLast?).getD ByteArray.empty
def folderT (s : ByteArray) : ByteArray := if namesT s = [] then ByteArray.empty else pathT (namesT s).dropLast
def joinB (s n : ByteArray) : Bool := pathB s && pathOfB (namesT s ++ [n])
def joinT (s n : ByteArray) : ByteArray := if joinB s n = true then pathT (namesT s ++ [n]) else ByteArray.empty
def underB (s t : ByteArray) : Bool := pathB s && (pathB t && (decide ((namesT t).length ≤ (namesT s).length) && decide ((namesT s).take (namesT t).length = namesT t)))

theorem namesT_of {s : ByteArray} (h : pathB s = true) : namesT s = namesOf s := by simp [namesT, h]
theorem namesT_no {s : ByteArray} (h : pathB s = false) : namesT s = [] := by simp [namesT, h]
theorem namesT_ok {s : ByteArray} (h : pathB s = true) : pathOfB (namesT s) = true := by rw [namesT_of h]; exact (pathB_cases h).2
theorem namesT_put {s : ByteArray} (h : pathB s = true) : pathT (namesT s) = s := by rw [namesT_of h]; exact pathT_names (pathB_cases h).1
theorem put_namesT {xs : List ByteArray} (h : pathOfB xs = true) : namesT (pathT xs) = xs := by
  rw [namesT_of (pathB_pathT h)]
  exact names_pathT (all_nameB h).2
theorem namesT_pathB {s : ByteArray} (h : namesT s ≠ []) : pathB s = true := by
  cases hp : pathB s
  · exact absurd (namesT_no hp) h
  · rfl
theorem pathOfB_mk {xs : List ByteArray} (h1 : xs.length ≤ 4) (h2 : ∀ x ∈ xs, nameB x = true) : pathOfB xs = true := by
  simp only [pathOfB, Bool.and_eq_true, decide_eq_true_eq, List.all_eq_true]
  exact ⟨h1, h2⟩
theorem pathOfB_dropLast {xs : List ByteArray} (h : pathOfB xs = true) : pathOfB xs.dropLast = true := by
  obtain ⟨h1, h2⟩ := all_nameB h
  exact pathOfB_mk (by rw [List.length_dropLast]; omega) (fun x hx => h2 x (List.dropLast_subset xs hx))
theorem pathOfB_one {s : ByteArray} (h : nameB s = true) : pathOfB [s] = true := pathOfB_mk (by simp) (fun x hx => by simp at hx; rw [hx]; exact h)

theorem pathT_ne (xs : List ByteArray) : pathT xs ≠ ByteArray.empty := fun e => by
  have := path_head xs
  rw [e] at this
  cases this
theorem nameB_ne {s : ByteArray} (h : nameB s = true) : s ≠ ByteArray.empty := fun e => by
  have := nameB_size h
  rw [e] at this
  simp at this

theorem baseT_cases (s : ByteArray) : (namesT s = [] ∧ baseT s = ByteArray.empty ∧ folderT s = ByteArray.empty) ∨ (∃ xs n, pathB s = true ∧ namesT s = xs ++ [n] ∧ baseT s = n ∧ folderT s = pathT xs ∧ nameB n = true ∧ pathOfB xs = true ∧ pathOfB (xs ++ [n]) = true) := by
  by_cases h : namesT s = []
  · exact .inl ⟨h, by simp [baseT, h], by simp [folderT, h]⟩
  · have hp := namesT_pathB h
    have hok := namesT_ok hp
    have e := List.dropLast_concat_getLast h
    refine .inr ⟨(namesT s).dropLast, (namesT s).getLast h, hp, e.symm, by rw [baseT, List.getLast?_eq_some_getLast h]; rfl, by simp [folderT, h], (all_nameB hok).2 _ (List.getLast_mem h), pathOfB_dropLast hok, by rw [e]; exact hok⟩

/-- P110. -/
theorem base_law {s : ByteArray} (h : baseT s ≠ ByteArray.empty) : joinB (folderT s) (baseT s) = true ∧ joinT (folderT s) (baseT s) = s ∧ nameB (baseT s) = true := by
  rcases baseT_cases s with ⟨_, hb, _⟩ | ⟨xs, n, hp, hn, hb, hf, h1, h2, h3⟩
  · exact absurd hb h
  · have hj : joinB (folderT s) (baseT s) = true := by
      rw [hf, hb, joinB, pathB_pathT h2, put_namesT h2, h3]
      rfl
    refine ⟨hj, ?_, by rw [hb]; exact h1⟩
    rw [joinT, if_pos hj, hf, hb, put_namesT h2, ← hn, namesT_put hp]

theorem underB_mk {s t : ByteArray} (hs : pathB s = true) (ht : pathB t = true) (h : namesT t <+: namesT s) : underB s t = true := by
  have h1 := h.length_le
  have h2 := List.prefix_iff_eq_take.1 h
  simp [underB, hs, ht, h1, h2.symm]
theorem underB_of {s t : ByteArray} (h : underB s t = true) : pathB s = true ∧ pathB t = true ∧ namesT t <+: namesT s := by
  simp only [underB, Bool.and_eq_true, decide_eq_true_eq] at h
  exact ⟨h.1, h.2.1, List.prefix_iff_eq_take.2 h.2.2.2.symm⟩

/-- P111. -/
theorem folder_law {s : ByteArray} (h : folderT s ≠ ByteArray.empty) : pathB s = true ∧ pathB (folderT s) = true ∧ (namesT s).length = (namesT (folderT s)).length + 1 ∧ underB s (folderT s) = true ∧ underB (folderT s) s = false := by
  rcases baseT_cases s with ⟨_, _, hf⟩ | ⟨xs, n, hp, hn, hb, hf, h1, h2, h3⟩
  · exact absurd hf h
  · have e := put_namesT h2
    refine ⟨hp, by rw [hf]; exact pathB_pathT h2, by rw [hf, e, hn]; simp, ?_, ?_⟩
    · rw [hf]
      exact underB_mk hp (pathB_pathT h2) (by rw [e, hn]; exact List.prefix_append _ _)
    · cases hu : underB (folderT s) s
      · rfl
      · have := (underB_of hu).2.2.length_le
        rw [hf, e, hn] at this
        simp at this
        omega

/-- P112. -/
theorem join_law {s n : ByteArray} (h : joinB s n = true) : baseT (joinT s n) = n ∧ folderT (joinT s n) = s ∧ underB (joinT s n) s = true := by
  have h' := h
  simp only [joinB, Bool.and_eq_true] at h'
  obtain ⟨hp, hok⟩ := h'
  have e : namesT (joinT s n) = namesT s ++ [n] := by rw [joinT, if_pos h]; exact put_namesT hok
  refine ⟨by simp [baseT, e], ?_, underB_mk (by rw [joinT, if_pos h]; exact pathB_pathT hok) hp (by rw [e]; exact List.prefix_append _ _)⟩
  rw [folderT, e, if_neg (by simp), List.dropLast_concat]
  exact namesT_put hp

theorem root_path : pathB ⟨#[47]⟩ = true := by simp [pathB]
theorem root_names : namesT ⟨#[47]⟩ = [] := by rw [namesT_of root_path]; simp [namesOf]

/-- P113. -/
theorem under_law {s t : ByteArray} (hs : pathB s = true) (ht : pathB t = true) : underB s s = true ∧ underB s ⟨#[47]⟩ = true ∧ (underB s t = true → underB t s = true → s = t) ∧ (underB s t = true → folderT t ≠ ByteArray.empty → underB s (folderT t) = true) := by
  refine ⟨underB_mk hs hs (List.prefix_refl _), underB_mk hs root_path (by rw [root_names]; exact List.nil_prefix), fun h1 h2 => ?_, fun h1 h2 => ?_⟩
  · have e : namesT s = namesT t := List.IsPrefix.eq_of_length_le (underB_of h2).2.2 (underB_of h1).2.2.length_le
    rw [← namesT_put hs, ← namesT_put ht, e]
  · rcases baseT_cases t with ⟨_, _, hf⟩ | ⟨xs, n, hp, hn, hb, hf, g1, g2, g3⟩
    · exact absurd hf h2
    · rw [hf]
      refine underB_mk hs (pathB_pathT g2) ?_
      rw [put_namesT g2]
      refine List.IsPrefix.trans ?_ (underB_of h1).2.2
      rw [hn]
      exact List.prefix_append _ _

/-- P91. -/
theorem name_law {s : ByteArray} (h : nameB s = true) : pathB (⟨#[47]⟩ ++ s) = true ∧ baseT (⟨#[47]⟩ ++ s) = s := by
  have e : (⟨#[47]⟩ : ByteArray) ++ s = pathT [s] := by
    apply ofL_ext
    rw [bytes_append]
    simp [pathT, slashB, ofL_data, slash]
  rw [e]
  have hok := pathOfB_one h
  exact ⟨pathB_pathT hok, by simp [baseT, put_namesT hok]⟩
/-- P109. -/
theorem of_law {xs : List ByteArray} (h : pathOfB xs = true) : pathB (pathOfT xs) = true ∧ namesT (pathOfT xs) = xs := by
  rw [pathOfT, if_pos h]
  exact ⟨pathB_pathT h, put_namesT h⟩
/-- P108. -/
theorem names_law {s : ByteArray} (h : pathB s = true) : pathOfB (namesT s) = true ∧ pathOfT (namesT s) = s ∧ (namesT s).length ≤ 4 := by
  have h1 := namesT_ok h
  exact ⟨h1, by rw [pathOfT, if_pos h1, namesT_put h], (all_nameB h1).1⟩

end Go.Proofs.YthedmiippfpbnaaGreatDoor
