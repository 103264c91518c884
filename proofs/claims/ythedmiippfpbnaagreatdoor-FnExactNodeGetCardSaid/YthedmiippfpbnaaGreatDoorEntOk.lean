/- EntriesOk: the reference's and the program's return one Bool for every list. -/
import Derived.Test.YthedmiippfpbnaaGreatDoorEntPlain
import Derived.Test.YthedmiippfpbnaaGreatDoorNameOk
namespace Go.Proofs.YthedmiippfpbnaaGreatDoor
open Go.RowKit
set_option linter.unusedVariables false

/-- Element k of a row of entries, with its cells. -/
theorem RdT.entry {w : World} {A : Option Addr} {es : List Ent} {k : Nat} (h : RdT encE 2 w A es) (hk : k < es.length) :
    ∃ b off nm id, A = some ⟨b, off, none⟩ ∧ b < w.heap.size ∧ es[k]? = some ⟨nm, id⟩ ∧ w.cell? ⟨b, off + k * 2, none⟩ = some (.string nm) ∧ w.cell? ⟨b, off + k * 2 + 1, none⟩ = some (.int .i64 id) := by
  obtain ⟨b, off, rfl, hb, hc⟩ := h (by omega)
  have he : es[k]? = some es[k] := List.getElem?_eq_getElem hk
  exact ⟨b, off, es[k].name, es[k].id, rfl, hb, he, hc k _ he 0 (by omega), hc k _ he 1 (by omega)⟩

/-- The row itself, once its address is known. -/
theorem RdT.row' {α : Type} {enc : α → Nat → Value} {sz : Nat} {w : World} {b off : Nat} {xs : List α} (h : RdT enc sz w (some ⟨b, off, none⟩) xs) (hn : 0 < xs.length) : RowAt enc sz w b off xs := by
  obtain ⟨b', off', e, hr⟩ := h hn
  cases e
  exact hr

end Go.Proofs.YthedmiippfpbnaaGreatDoor
