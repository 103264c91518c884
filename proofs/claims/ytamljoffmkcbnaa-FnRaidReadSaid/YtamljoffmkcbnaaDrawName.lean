/- Names drawn. -/
import Derived.Test.YtamljoffmkcbnaaPick
import Derived.Deep.RegionWith
namespace Go.Proofs.Ytamljoffmkcbnaa
open Go.RowKit
set_option linter.unusedVariables false
set_option linter.unusedSimpArgs false

/-- A text was drawn: no longer than so many bytes, by so many draws. -/
def StrD (n d : Nat) (w : World) (rb p : Nat) (e : Ending) (w' : World) : Prop := ∃ (s : ByteArray) (q : Nat), e = .returned (.string s) ∧ s.size ≤ n ∧ Rs w' rb (p + q) ∧ q ≤ d ∧ Kp [rb] w w'

theorem lit_str (m : Nat) (l : List ByteArray) (h : ∀ x ∈ l, x.size ≤ m) (k : Nat) (hk : k < l.length) : ∃ s, (l.map (Value.string)).toArray[k]? = some (.string s) ∧ s.size ≤ m := ⟨l[k], by simp [List.getElem?_eq_getElem hk], h _ (List.getElem_mem _)⟩

end Go.Proofs.Ytamljoffmkcbnaa
