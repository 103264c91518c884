/- A variable that lies in memory: its block, known whole. -/
import Derived.Test.YtamljoffmkcbnaaMem
namespace Go.Proofs.Ytamljoffmkcbnaa
open Go.RowKit
set_option linter.unusedVariables false

def BoxAt (w : World) (b : Nat) (cs : Array Value) (T : TypeId) : Prop := w.heap[b]? = some (.cells cs T)
section
variable {w w' : World} {b : Nat} {cs : Array Value} {T : TypeId}
theorem BoxAt.lt (h : BoxAt w b cs T) : b < w.heap.size := by
  rcases Nat.lt_or_ge b w.heap.size with h' | h'
  · exact h'
  · unfold BoxAt at h
    rw [Array.getElem?_eq_none h'] at h
    cases h
theorem BoxAt.cell (h : BoxAt w b cs T) : ∀ j, w.cell? ⟨b, j, none⟩ = cs[j]? := fun j => by
  unfold BoxAt at h
  simp [World.cell?, h]
theorem BoxAt.froz (h : BoxAt w b cs T) : ∀ j, w.frozen? ⟨b, j, none⟩ = false := fun j => by
  unfold BoxAt at h
  simp [World.frozen?, h]
theorem BoxAt.below (h : BoxAt w b cs T) (hB : Below w.heap.size w w') : BoxAt w' b cs T := (hB.block b h.lt).trans h
theorem BoxAt.kp {ex : List Nat} (h : BoxAt w b cs T) (hB : Kp ex w w') (he : b ∉ ex) : BoxAt w' b cs T := (hB.block b h.lt he).trans h
theorem BoxAt.alloc (h : BoxAt w b cs T) (o : Obj) : BoxAt (w.alloc o) b cs T := (Below.heap_alloc _ _ _ h.lt).trans h
theorem BoxAt.drew (h : BoxAt w b cs T) : BoxAt w.drew b cs T := h
theorem BoxAt.drewN (h : BoxAt w b cs T) (n : Nat) : BoxAt (w.drewN n) b cs T := h
theorem BoxAt.set (h : BoxAt w b cs T) {p : Addr} (hp : b ≠ p.block) (u : Value) : BoxAt (w.setCell p u) b cs T := (Below.heap_setCell _ _ _ _ hp).trans h
theorem box_new (w : World) (cs : Array Value) (T : TypeId) : BoxAt (w.alloc (.cells cs T)) w.heap.size cs T := heap_alloc_new w _
theorem box_putB (h : BoxAt w b cs T) (j : Nat) (v : Value) : BoxAt (w.setCell ⟨b, j, none⟩ v) b (cs.setIfInBounds j v) T := by
  obtain ⟨hlt, hk⟩ := Array.getElem?_eq_some_iff.1 (show w.heap[b]? = some (.cells cs T) from h)
  show (w.heap.modify b _)[b]? = _
  rw [Array.getElem?_eq_getElem (by rw [Array.size_modify]; exact hlt), Array.getElem_modify_self, hk]
  rfl
end

end Go.Proofs.Ytamljoffmkcbnaa
