/- Paths, the reference's functions, from the names on. -/
import Derived.Test.YthedmiippfpbnaaGreatDoorPathSpec
namespace Go.Proofs.YthedmiippfpbnaaGreatDoor
open Go.RowKit
set_option linter.unusedVariables false
set_option linter.unusedSimpArgs false

/-- A slice that reads as a list of texts. -/
def RdS (w : World) (xs : List ByteArray) (e : Ending) (w' : World) : Prop := ∃ A cap, e = .returned (.slice A xs.length cap) ∧ xs.length ≤ cap ∧ cap ≤ 9223372036854775807 ∧ RdT encS 1 w' A xs ∧ Below w.heap.size w w'

theorem drop_one {l : List ByteArray} (h : l ≠ []) : (l.drop 1).length + 1 = l.length := by
  cases l with
  | nil => exact absurd rfl h
  | cons x r => simp

theorem ne_root {s : ByteArray} (h : s ≠ ⟨#[47]⟩) : (s.toList == [47]) = false := by
  cases he : (s.toList == [47])
  · rfl
  · rw [beq_iff_eq, Lib.toList_data] at he
    exact absurd (ofL_ext (by rw [he])) h

theorem pathB_head {s : ByteArray} (h : s ≠ ⟨#[47]⟩) (h0 : s.data.toList.head? ≠ some 47) : pathB s = false := by simp [pathB, h, h0]
theorem pathB_names {s : ByteArray} (h : s ≠ ⟨#[47]⟩) (h0 : s.data.toList.head? = some 47) : pathB s = pathOfB (namesOf s) := by simp [pathB, h, h0]
theorem head_at {s : ByteArray} (h : 0 < s.size) : s.data.toList.head? = some s[0] := by
  have h' : 0 < s.data.toList.length := by rw [size_data]; exact h
  rw [List.head?_eq_getElem?, List.getElem?_eq_getElem h']
  rfl
theorem namesOf_len {s : ByteArray} : (namesOf s).length ≤ s.size + 1 := by
  unfold namesOf
  split
  · simp
  · have h := cutL_slash 47 s.data.toList
    have h2 : ∀ (xs : List (List UInt8)), xs.length ≤ (slash 47 xs).length := fun xs => by
      induction xs with
      | nil => simp
      | cons x r ih =>
        have e : slash 47 (x :: r) = 47 :: (x ++ slash 47 r) := by simp [slash]
        rw [e]
        simp only [List.length_cons, List.length_append]
        omega
    have h3 := h2 (cutL 47 s.data.toList)
    rw [h] at h3
    simp only [List.length_cons, size_data] at h3
    rw [List.length_drop, cutB, List.length_map]
    omega
theorem namesOf_each {s : ByteArray} : ∀ x ∈ namesOf s, x.size ≤ s.size + 1 := by
  unfold namesOf
  split
  · intro x hx; simp at hx
  · intro x hx
    have hx := List.mem_of_mem_drop hx
    obtain ⟨y, hy, rfl⟩ := List.mem_map.1 hx
    have h := cutL_slash 47 s.data.toList
    have h2 : ∀ (xs : List (List UInt8)), y ∈ xs → y.length ≤ (slash 47 xs).length := fun xs => by
      induction xs with
      | nil => intro h; cases h
      | cons x r ih =>
        intro h
        have e : slash 47 (x :: r) = 47 :: (x ++ slash 47 r) := by simp [slash]
        rw [e]
        simp only [List.length_cons, List.length_append]
        rcases List.mem_cons.1 h with rfl | h
        · omega
        · have := ih h; omega
    have h3 := h2 _ hy
    rw [h] at h3
    rw [ofL_size]
    simp only [List.length_cons, size_data] at h3
    omega

/-- Names and whether there are. -/
def NamesPost (w : World) (xs : List ByteArray) (b : Bool) (e : Ending) (w' : World) : Prop := ∃ v, e = .returned (.tuple #[v, .bool b]) ∧ Own encS 1 9 w.heap.size w' v xs ∧ Below w.heap.size w w'

end Go.Proofs.YthedmiippfpbnaaGreatDoor
