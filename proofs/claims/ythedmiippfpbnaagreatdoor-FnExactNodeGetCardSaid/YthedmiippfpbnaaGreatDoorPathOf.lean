/- PathOf, the reference's. -/
import Derived.Test.YthedmiippfpbnaaGreatDoorPathLaws
import Derived.Test.YthedmiippfpbnaaGreatDoorStrS
namespace Go.Proofs.YthedmiippfpbnaaGreatDoor
open Go.RowKit
set_option linter.unusedVariables false
set_option linter.unusedSimpArgs false

theorem slashB_step {c : UInt8} {xs : List ByteArray} {k : Nat} {x : ByteArray} (h : xs[k]? = some x) : slashB c (xs.take k) ++ ⟨#[c]⟩ ++ x = slashB c (xs.take (k + 1)) := by
  rw [List.take_add_one, h]
  show _ = slashB c (xs.take k ++ [x])
  rw [slashB_snoc, ByteArray.append_assoc]
theorem slashB_size {c : UInt8} {xs : List ByteArray} (h : ∀ x ∈ xs, x.size ≤ 4) (hn : xs.length ≤ 4) (k : Nat) : (slashB c (xs.take k)).size ≤ 20 := by
  have h1 := slash_len c (xs.take k) (fun x hx => h x (List.mem_of_mem_take hx))
  have h2 : (xs.take k).length ≤ 4 := by rw [List.length_take]; omega
  rw [slashB, ofL_size]
  omega
theorem slashB_empty {c : UInt8} {xs : List ByteArray} (h : xs ≠ []) : slashB c xs ≠ ByteArray.empty := fun e => by
  cases xs with
  | nil => exact h rfl
  | cons x r =>
    have := congrArg (fun b : ByteArray => b.data.toList) e
    simp [slashB, ofL_data, slash] at this

theorem pathOfB_cons {x : ByteArray} {k : Nat} (xs : List ByteArray) (h : xs[k]? = some x) (hn : nameB x = false) : pathOfB xs = false := by
  cases h' : pathOfB xs
  · rfl
  · have := (all_nameB h').2 x (List.mem_of_getElem? h)
    rw [hn] at this
    cases this

def Of2 (w : World) (b : Bool) (s : ByteArray) (e : Ending) (w' : World) : Prop := e = .returned (.tuple #[.string s, .bool b]) ∧ Below w.heap.size w w'

end Go.Proofs.YthedmiippfpbnaaGreatDoor
