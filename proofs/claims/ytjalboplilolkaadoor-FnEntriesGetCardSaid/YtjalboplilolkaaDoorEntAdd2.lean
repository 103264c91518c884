/- EntriesAdd, the reference's. -/
import Derived.Test.YtjalboplilolkaaDoorEntAdd
namespace Go.Proofs.YtjalboplilolkaaDoor
open Go.RowKit
set_option linter.unusedVariables false
set_option linter.unusedSimpArgs false

/-- Whether an entry may go in, and the list with it. -/
def addB (es : List Ent) (x : Ent) : Bool := entriesOkB es && (decide (atOf es x.name < 0) && entriesOkB (addFrom x es false))
def addL (es : List Ent) (x : Ent) : List Ent := if addB es x = true then addFrom x es false else []
theorem add_bad {es : List Ent} {x : Ent} (h : addB es x = false) : addL es x = [] := by simp [addL, h]
theorem add_hit {es : List Ent} {x : Ent} (h : addB es x = true) : addL es x = addFrom x es false := by simp [addL, h]
theorem addFrom_mem (x : Ent) : ∀ (l : List Ent) (b : Bool) (e : Ent), e ∈ addFrom x l b → e = x ∨ e ∈ l
  | [], true, e, h => by simp [addFrom] at h
  | [], false, e, h => by simp [addFrom] at h; exact .inl h
  | d :: r, true, e, h => by
    simp [addFrom] at h
    rcases h with rfl | h
    · simp
    · rcases addFrom_mem x r true e h with h | h <;> simp [h]
  | d :: r, false, e, h => by
    unfold addFrom at h
    split at h
    · simp at h
      rcases h with rfl | rfl | h
      · simp
      · simp
      · rcases addFrom_mem x r true e h with h | h <;> simp [h]
    · simp at h
      rcases h with rfl | h
      · simp
      · rcases addFrom_mem x r false e h with h | h <;> simp [h]

end Go.Proofs.YtjalboplilolkaaDoor
