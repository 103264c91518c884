/- EntriesLess: both texts. -/
import Derived.Test.YtjalboplilolkaaDoorEntClone
namespace Go.Proofs.YtjalboplilolkaaDoor
open Go.RowKit
set_option linter.unusedVariables false
set_option linter.unusedSimpArgs false

def lessB (es : List Ent) (nm : ByteArray) : Bool := entriesOkB es && decide (0 ≤ atOf es nm)
def lessL (es : List Ent) (nm : ByteArray) : List Ent := if lessB es nm = true then es.take (atOf es nm).toNat ++ es.drop ((atOf es nm).toNat + 1) else []
theorem less_bad {es : List Ent} {nm : ByteArray} (h : entriesOkB es = false) : lessB es nm = false ∧ lessL es nm = [] := by
  have : lessB es nm = false := by simp [lessB, h]
  exact ⟨this, by simp [lessL, this]⟩
theorem less_miss {es : List Ent} {nm : ByteArray} (h : atOf es nm = -1) : lessB es nm = false ∧ lessL es nm = [] := by
  have : lessB es nm = false := by simp [lessB, h]
  exact ⟨this, by simp [lessL, this]⟩
theorem less_hit {es : List Ent} {nm : ByteArray} {i : Nat} (h : entriesOkB es = true) (ha : atOf es nm = (i : Int)) : lessB es nm = true ∧ lessL es nm = es.take i ++ es.drop (i + 1) := by
  have : lessB es nm = true := by simp [lessB, h, ha]
  exact ⟨this, by simp [lessL, this, ha]⟩

theorem Own.head {α : Type} {enc : α → Nat → Value} {sz T base : Nat} {w : World} {v : Value} {xs : List α} (h : Own enc sz T base w v xs) (hn : 0 < xs.length) : ∃ g cap, v = .slice (some ⟨g, 0, none⟩) xs.length cap := by
  rcases h.2 with ⟨_, h0⟩ | ⟨g, cap, cur, hv, _⟩
  · omega
  · exact ⟨g, cap, hv⟩

def LessPost (w : World) (b : Bool) (l : List Ent) (e : Ending) (w' : World) : Prop := ∃ v, e = .returned (.tuple #[v, .bool b]) ∧ Own encE 2 76 w.heap.size w' v l ∧ Below w.heap.size w w'

end Go.Proofs.YtjalboplilolkaaDoor
