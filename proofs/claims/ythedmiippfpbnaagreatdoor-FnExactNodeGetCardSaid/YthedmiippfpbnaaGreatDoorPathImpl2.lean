/- Paths, the program's functions, from the names on. -/
import Derived.Test.YthedmiippfpbnaaGreatDoorPathImpl
import Derived.Test.YthedmiippfpbnaaGreatDoorPathSpec3
namespace Go.Proofs.YthedmiippfpbnaaGreatDoor
open Go.RowKit
set_option linter.unusedVariables false
set_option linter.unusedSimpArgs false

/-- The library's own number, whatever it is. -/
def MaxAt (w : World) : Prop := ∃ m : Int, w.cell? ⟨0, 0, none⟩ = some (.int .i64 m)
theorem MaxAt.below {w w' : World} (h : MaxAt w) (hb : Below w.heap.size w w') : MaxAt w' := by
  obtain ⟨m, hm⟩ := h
  refine ⟨m, ?_⟩
  rw [hb.cell (p := ⟨0, 0, none⟩) (World.block_lt_of_cell? w _ hm)]
  exact hm

theorem own_split {base : Nat} {w : World} (xs : List ByteArray) (hb : base ≤ w.heap.size) (hn : xs.length ≤ maxLen) : Own encS 1 9 base (w.alloc (.cells (xs.map Value.string).toArray 9)) (.slice (some ⟨w.heap.size, 0, none⟩) xs.length xs.length) xs := by
  have e : cellsOf encS 1 xs = xs.map Value.string := by
    induction xs with
    | nil => rfl
    | cons x r ih =>
      have := ih (by simp at hn; omega)
      simp [cellsOf, this, encS]
  refine ⟨by rw [cellsOf_length], .inr ⟨w.heap.size, xs.length, (xs.map Value.string).toArray, rfl, hb, heap_alloc_new w _, Nat.le_refl _, hn, by simp, ?_⟩⟩
  rw [e, Nat.mul_one]
  simp only [List.toList_toArray]
  exact List.take_of_length_le (by simp)

theorem cut_no {s : ByteArray} (h : s.data.toList.head? ≠ some 47) : Lib.hasPrefix s.data.toList [47] = false := by
  unfold Lib.hasPrefix
  cases hs : s.data.toList with
  | nil => rfl
  | cons b r =>
    rw [hs] at h
    have hb : ¬ b = 47 := by simpa using h
    have : ¬ (47 : UInt8) = b := fun e => hb e.symm
    simp [List.isPrefixOf, this]
theorem cut_yes {s : ByteArray} (h : s.data.toList.head? = some 47) : Lib.hasPrefix s.data.toList [47] = true ∧ ∃ r, s.data.toList = 47 :: r ∧ Lib.trimPrefix s.data.toList [47] = r := by
  cases hs : s.data.toList with
  | nil => rw [hs] at h; cases h
  | cons b r =>
    rw [hs] at h
    simp at h
    subst h
    have e : Lib.hasPrefix (47 :: r) [47] = true := by simp [Lib.hasPrefix, List.isPrefixOf]
    exact ⟨e, r, rfl, by rw [Lib.trimPrefix, if_pos e]; rfl⟩

end Go.Proofs.YthedmiippfpbnaaGreatDoor
