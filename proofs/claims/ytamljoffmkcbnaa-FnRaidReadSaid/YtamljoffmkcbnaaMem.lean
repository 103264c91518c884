/- Words for memory: which blocks a call leaves alone ('Kp'), and a slice that reads as a list ('RdT'). -/
import Derived.Test.YtamljoffmkcbnaaBase
import Derived.Below
import Derived.Laws.OwnMore
import Derived.Deep.Draws
namespace Go.Proofs.Ytamljoffmkcbnaa
open Go.RowKit
set_option linter.unusedVariables false

/-- All blocks that were there, but those listed, are as they were. -/
structure Kp (ex : List Nat) (w w' : World) : Prop where
  os : w'.os = w.os
  tape : w'.tape = w.tape
  output : w'.output = w.output
  size : w.heap.size ≤ w'.heap.size
  block : ∀ k, k < w.heap.size → k ∉ ex → w'.heap[k]? = w.heap[k]?

section
variable {ex ex' : List Nat} {w w' w'' : World}
theorem Kp.refl (ex : List Nat) (w : World) : Kp ex w w := ⟨rfl, rfl, rfl, Nat.le_refl _, fun _ _ _ => rfl⟩
theorem Kp.trans (h : Kp ex w w') (k : Kp ex w' w'') : Kp ex w w'' :=
  ⟨k.os.trans h.os, k.tape.trans h.tape, k.output.trans h.output, Nat.le_trans h.size k.size, fun i hi he => (k.block i (Nat.lt_of_lt_of_le hi h.size) he).trans (h.block i hi he)⟩
theorem Kp.mono (h : Kp ex w w') (hs : ∀ k ∈ ex, k ∈ ex') : Kp ex' w w' := ⟨h.os, h.tape, h.output, h.size, fun i hi he => h.block i hi (fun hm => he (hs i hm))⟩
theorem Kp.of_below (h : Below w.heap.size w w') : Kp [] w w' := ⟨h.os, h.tape, h.output, h.size, fun i hi _ => h.block i hi⟩
theorem Kp.all (h : Kp [] w w') (ex : List Nat) : Kp ex w w' := h.mono (fun _ hm => by cases hm)
/-- A later list may name what is new. -/
theorem Kp.trans' (h : Kp ex w w') (k : Kp ex' w' w'') (hn : ∀ i ∈ ex', i ∈ ex ∨ w.heap.size ≤ i) : Kp ex w w'' :=
  ⟨k.os.trans h.os, k.tape.trans h.tape, k.output.trans h.output, Nat.le_trans h.size k.size, fun i hi he => by
    refine (k.block i (Nat.lt_of_lt_of_le hi h.size) (fun hm => ?_)).trans (h.block i hi he)
    rcases hn i hm with hm | hm
    · exact he hm
    · omega⟩
theorem Kp.below (h : Kp ex w w') {B : Nat} (hB : B ≤ w.heap.size) (he : ∀ k ∈ ex, B ≤ k) : Below B w w' :=
  ⟨h.os, h.tape, h.output, h.size, fun i hi => h.block i (by omega) (fun hm => by have := he i hm; omega)⟩
theorem Kp.below0 (h : Kp [] w w') : Below w.heap.size w w' := h.below (Nat.le_refl _) (fun _ hm => by cases hm)
theorem Kp.cell (h : Kp ex w w') {b o : Nat} (hb : b < w.heap.size) (he : b ∉ ex) : w'.cell? ⟨b, o, none⟩ = w.cell? ⟨b, o, none⟩ := World.cell?_of_block (w := w) (a := ⟨b, o, none⟩) (h.block b hb he)
theorem Kp.frozen (h : Kp ex w w') {b o : Nat} (hb : b < w.heap.size) (he : b ∉ ex) : w'.frozen? ⟨b, o, none⟩ = w.frozen? ⟨b, o, none⟩ := World.frozen?_of_block (w := w) (a := ⟨b, o, none⟩) (h.block b hb he)
theorem Kp.drew (h : Kp ex w w') : Kp ex w w'.drew := ⟨h.os, h.tape, h.output, h.size, h.block⟩
theorem Kp.drewN (h : Kp ex w w') (n : Nat) : Kp ex w (w'.drewN n) := ⟨h.os, h.tape, h.output, h.size, h.block⟩
theorem Kp.alloc (h : Kp ex w w') (o : Obj) : Kp ex w (w'.alloc o) := h.trans ⟨rfl, rfl, rfl, by simp, fun k hk _ => Below.heap_alloc _ _ _ hk⟩
theorem Kp.setCell (h : Kp ex w w') {p : Addr} (hp : p.block ∈ ex ∨ w.heap.size ≤ p.block) (u : Value) : Kp ex w (w'.setCell p u) :=
  ⟨h.os, h.tape, h.output, by rw [World.size_setCell]; exact h.size, fun k hk he => by
    rw [Below.heap_setCell _ _ _ _ (by
      intro e
      subst e
      rcases hp with hp | hp
      · exact he hp
      · omega)]
    exact h.block k hk he⟩
end

/-- The walk's two rules behind a call that leaves old memory alone. -/
theorem bcell {W w1 : World} (hb : Below W.heap.size W w1) : (∀ b o, b < W.heap.size → w1.cell? ⟨b, o, none⟩ = W.cell? ⟨b, o, none⟩) ∧ (∀ b o, b < W.heap.size → w1.frozen? ⟨b, o, none⟩ = W.frozen? ⟨b, o, none⟩) :=
  ⟨fun b o h => hb.cell (p := ⟨b, o, none⟩) h, fun b o h => hb.frozen (p := ⟨b, o, none⟩) h⟩

theorem below_alloc {w W : World} (h : Below w.heap.size w W) (o : Obj) : Below w.heap.size w (W.alloc o) := h.alloc h.size o
theorem below_drewN {B : Nat} {w W : World} (h : Below B w W) (n : Nat) : Below B w (W.drewN n) := ⟨h.os, h.tape, h.output, h.size, h.block⟩
theorem below_kp {ex : List Nat} {w W W' : World} (h : Below w.heap.size w W) (hk : Kp ex W W') (he : ∀ k ∈ ex, w.heap.size ≤ k) : Below w.heap.size w W' := h.trans (hk.below h.size he)
theorem below_below {w W W' : World} (h : Below w.heap.size w W) (hk : Below W.heap.size W W') : Below w.heap.size w W' := h.trans (hk.mono h.size)
theorem below_set {w W : World} (h : Below w.heap.size w W) {p : Addr} (hp : w.heap.size ≤ p.block) (u : Value) : Below w.heap.size w (W.setCell p u) := h.setCell hp u

/-! A slice that reads as a list: 'enc x j' is cell j of the element x, 'sz' cells an element. -/
def RowAt {α : Type} (enc : α → Nat → Value) (sz : Nat) (w : World) (b off : Nat) (xs : List α) : Prop :=
  b < w.heap.size ∧ ∀ i x, xs[i]? = some x → ∀ j, j < sz → w.cell? ⟨b, off + i * sz + j, none⟩ = some (enc x j)
def RdT {α : Type} (enc : α → Nat → Value) (sz : Nat) (w : World) (A : Option Addr) (xs : List α) : Prop :=
  0 < xs.length → ∃ b off, A = some ⟨b, off, none⟩ ∧ RowAt enc sz w b off xs

section
variable {α : Type} {enc : α → Nat → Value} {sz : Nat} {w w' : World} {A : Option Addr} {xs : List α} {b off : Nat}
theorem RowAt.keep (h : RowAt enc sz w b off xs) (hb : w'.heap[b]? = w.heap[b]?) (hs : w.heap.size ≤ w'.heap.size) : RowAt enc sz w' b off xs :=
  ⟨Nat.lt_of_lt_of_le h.1 hs, fun i x hx j hj => (World.cell?_of_block (w := w) (a := ⟨b, _, none⟩) hb).trans (h.2 i x hx j hj)⟩
theorem RdT.keep (h : RdT enc sz w A xs) (hs : w.heap.size ≤ w'.heap.size) (hb : 0 < xs.length → ∀ a, A = some a → a.block < w.heap.size → w'.heap[a.block]? = w.heap[a.block]?) : RdT enc sz w' A xs := fun hn => by
  obtain ⟨b, off, rfl, hr⟩ := h hn
  exact ⟨b, off, rfl, hr.keep (hb hn _ rfl hr.1) hs⟩
theorem RdT.below (h : RdT enc sz w A xs) (hb : Below w.heap.size w w') : RdT enc sz w' A xs := h.keep hb.size (fun _ a _ hl => hb.block _ hl)
theorem RdT.kp {ex : List Nat} (h : RdT enc sz w A xs) (hb : Kp ex w w') (he : 0 < xs.length → ∀ a, A = some a → a.block ∉ ex) : RdT enc sz w' A xs := h.keep hb.size (fun hn a ha hl => hb.block _ hl (he hn a ha))
theorem RdT.lt (h : RdT enc sz w A xs) (hn : 0 < xs.length) : ∀ a, A = some a → a.block < w.heap.size := by
  obtain ⟨b, off, rfl, hr⟩ := h hn
  intro a ha
  cases ha
  exact hr.1
theorem RdT.take (h : RdT enc sz w A xs) (k : Nat) : RdT enc sz w A (xs.take k) := fun hn => by
  have hl : 0 < xs.length := by rw [List.length_take] at hn; omega
  obtain ⟨b, off, rfl, hr⟩ := h hl
  refine ⟨b, off, rfl, hr.1, fun i x hx j hj => hr.2 i x ?_ j hj⟩
  rw [List.getElem?_take] at hx
  split at hx
  · exact hx
  · cases hx
theorem RdT.none_ : RdT enc sz w A ([] : List α) := fun h => absurd h (by simp)
theorem RowAt.tail {off' : Nat} (h : RowAt enc sz w b off xs) (k : Nat) (ho : off' = off + k * sz) : RowAt enc sz w b off' (xs.drop k) :=
  ⟨h.1, fun i x hx j hj => by
    rw [List.getElem?_drop] at hx
    have := h.2 _ x hx j hj
    rw [ho, ← this, Nat.add_mul]
    congr 2
    omega⟩
end

/-- The elements' cells. -/
def encI (k : IntKind) (z : Int) (_ : Nat) : Value := .int k z
def encS (s : ByteArray) (_ : Nat) : Value := .string s

/-- Where the addresses of a slice lie: from a block on. -/
def From (B : Nat) (A : Option Addr) : Prop := ∀ a, A = some a → B ≤ a.block

end Go.Proofs.Ytamljoffmkcbnaa
