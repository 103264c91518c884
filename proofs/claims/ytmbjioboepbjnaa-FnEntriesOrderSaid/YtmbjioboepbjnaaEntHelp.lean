/- The laws' own helpers over entries: what szEntryS, toEntryS, eqEntryS return; the argument opened. -/
import Derived.Test.YtmbjioboepbjnaaEntOk
import Derived.Test.YtmbjioboepbjnaaLawCode
import Derived.Deep.SlicePairs
import Derived.Laws.ResultCell
namespace Go.Proofs.Ytmbjioboepbjnaa
open Go.RowKit
set_option linter.unusedVariables false
set_option linter.unusedSimpArgs false

def SzPost (w : World) (left : Int) (n : Nat) (e : Ending) (w' : World) : Prop := ∃ r : Int, e = .returned (.int .i64 r) ∧ -1 ≤ r ∧ r ≤ left ∧ (0 ≤ r → (n : Int) ≤ left) ∧ Below w.heap.size w w'
def SzOne (w : World) (left : Int) (e : Ending) (w' : World) : Prop := ∃ r : Int, e = .returned (.int .i64 r) ∧ -1 ≤ r ∧ r ≤ left ∧ Below w.heap.size w w'

theorem info_entry : (Try.prog.info? 32).map (fun i => (i.zero, i.size, i.bytes)) = some (some (.agg #[.string ⟨#[]⟩, .int .i64 0]), 2, 24) := by kernel_rfl

theorem madeE (n : Nat) : (madeCells (Value.agg #[.string ⟨#[]⟩, .int .i64 0]).cells (n * 2)).toList = cellsOf encE 2 (List.replicate n ⟨⟨#[]⟩, 0⟩) := by
  apply List.ext_getElem?
  intro i
  by_cases hi : i < n * 2
  · have h1 : (List.replicate n (⟨⟨#[]⟩, 0⟩ : Ent))[i / 2]? = some ⟨⟨#[]⟩, 0⟩ := by rw [List.getElem?_replicate, if_pos (by omega)]
    have h2 := cellsOf_get (enc := encE) (sz := 2) _ (i / 2) (i % 2) _ h1 (by omega)
    rw [show i / 2 * 2 + i % 2 = i by omega] at h2
    rw [h2]
    rcases (show i % 2 = 0 ∨ i % 2 = 1 by omega) with e | e
    · simp [madeCells, Value.cells, hi, e, encE]
    · simp [madeCells, Value.cells, hi, e, encE]
  · rw [List.getElem?_eq_none (by simp [madeCells]; omega), List.getElem?_eq_none (by rw [cellsOf_length, List.length_replicate]; omega)]

theorem ownsRow_below {w w' : World} {base : Nat} {e : TypeId} {size : Nat} {v : Value} {n : Nat} {xs : List Value} (h : w.ownsRow base e size v n xs) (hb : Below w.heap.size w w') : w'.ownsRow base e size v n xs := by
  refine ⟨h.1, ?_⟩
  rcases h.2 with h | ⟨g, cap, cur, rfl, hg, hh, r⟩
  · exact .inl h
  · have hlt : g < w.heap.size := by
      rcases Nat.lt_or_ge g w.heap.size with h' | h'
      · exact h'
      · rw [Array.getElem?_eq_none h'] at hh; cases hh
    exact .inr ⟨g, cap, cur, rfl, hg, (hb.block g hlt).trans hh, r⟩

def ToPost (w : World) (es : List Ent) (e : Ending) (w' : World) : Prop := ∃ v, e = .returned v ∧ Own encE 2 32 w.heap.size w' v es ∧ Below w.heap.size w w'

theorem add_plain' (b off i : Nat) : (⟨b, off, none⟩ : Addr).add i = ⟨b, off + i, none⟩ := by
  unfold Addr.add
  split
  · next h => subst h; simp
  · rfl

def strOf : Value → ByteArray | .string s => s | _ => ⟨#[]⟩

end Go.Proofs.Ytmbjioboepbjnaa
