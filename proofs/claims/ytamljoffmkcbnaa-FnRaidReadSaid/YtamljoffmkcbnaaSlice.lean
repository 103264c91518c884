/- Slices of elements of several cells: the cells of a list of elements, and the kit's own rows ('ownsRow') read as such. -/
import Derived.Test.YtamljoffmkcbnaaMem
import Derived.OwnWalk
namespace Go.Proofs.Ytamljoffmkcbnaa
open Go.RowKit
set_option linter.unusedVariables false

section
variable {α : Type} {enc : α → Nat → Value} {sz : Nat}
/-- The cells of a list of elements. -/
def cellsOf (enc : α → Nat → Value) (sz : Nat) : List α → List Value
  | [] => []
  | x :: r => (List.range sz).map (enc x) ++ cellsOf enc sz r

theorem cellsOf_length : ∀ (l : List α), (cellsOf enc sz l).length = l.length * sz
  | [] => by simp [cellsOf]
  | x :: r => by simp [cellsOf, cellsOf_length r, Nat.add_mul]; omega
theorem cellsOf_get : ∀ (l : List α) (i j : Nat) (x : α), l[i]? = some x → j < sz → (cellsOf enc sz l)[i * sz + j]? = some (enc x j)
  | [], i, j, x, h, hj => by simp at h
  | y :: r, 0, j, x, h, hj => by
    simp at h
    subst h
    simp [cellsOf, List.getElem?_append, hj]
  | y :: r, i + 1, j, x, h, hj => by
    have := cellsOf_get r i j x (by simpa using h) hj
    rw [← this]
    simp only [cellsOf]
    rw [List.getElem?_append_right (by simp [Nat.add_mul]; omega)]
    congr 1
    simp [Nat.add_mul]
    omega
theorem cellsOf_append : ∀ (l m : List α), cellsOf enc sz (l ++ m) = cellsOf enc sz l ++ cellsOf enc sz m
  | [], m => rfl
  | x :: r, m => by simp [cellsOf, cellsOf_append r m]
theorem cellsOf_one (x : α) : cellsOf enc sz [x] = (List.range sz).map (enc x) := by simp [cellsOf]
theorem cellsOf_take (l : List α) (k : Nat) : (cellsOf enc sz l).take (k * sz) = cellsOf enc sz (l.take k) := by
  by_cases hk : k ≤ l.length
  · conv => lhs; rw [← List.take_append_drop k l]
    rw [cellsOf_append, List.take_append_of_le_length (by rw [cellsOf_length, List.length_take, Nat.min_eq_left hk]; exact Nat.le_refl _), List.take_of_length_le (by rw [cellsOf_length, List.length_take, Nat.min_eq_left hk]; exact Nat.le_refl _)]
  · rw [List.take_of_length_le (by rw [cellsOf_length]; exact Nat.mul_le_mul_right _ (by omega)), List.take_of_length_le (by omega)]
theorem cellsOf_drop (l : List α) (k : Nat) : (cellsOf enc sz l).drop (k * sz) = cellsOf enc sz (l.drop k) := by
  by_cases hk : k ≤ l.length
  · conv => lhs; rw [← List.take_append_drop k l]
    rw [cellsOf_append, List.drop_append, List.drop_of_length_le (by rw [cellsOf_length, List.length_take, Nat.min_eq_left hk]; exact Nat.le_refl _)]
    rw [cellsOf_length, List.length_take, Nat.min_eq_left hk, Nat.sub_self]
    simp
  · rw [List.drop_of_length_le (by rw [cellsOf_length]; exact Nat.mul_le_mul_right _ (by omega)), List.drop_of_length_le (by omega)]
    rfl
/-- Element k replaced: its cells replaced (two cells an element). -/
theorem cellsOf_set2 (l : List α) (k : Nat) (x : α) (hk : k < l.length) : ((cellsOf enc 2 l).set (k * 2) (enc x 0)).set (k * 2 + 1) (enc x 1) = cellsOf enc 2 (l.set k x) := by
  induction l generalizing k with
  | nil => simp at hk
  | cons y r ih =>
    cases k with
    | zero => simp [cellsOf, List.range_succ]
    | succ k =>
      have := ih k (by simpa using hk)
      simp only [List.set_cons_succ, cellsOf, ← this]
      simp [List.range_succ, Nat.add_mul]
theorem cellsOf_set1 (l : List α) (k : Nat) (x : α) (hk : k < l.length) : (cellsOf enc 1 l).set k (enc x 0) = cellsOf enc 1 (l.set k x) := by
  induction l generalizing k with
  | nil => simp at hk
  | cons y r ih =>
    cases k with
    | zero => simp [cellsOf]
    | succ k =>
      have := ih k (by simpa using hk)
      simp only [List.set_cons_succ, cellsOf, ← this]
      simp
end

/-- The first k of a list, then so many zero elements: with element k in its place. -/
theorem fill_set {α : Type} (l : List α) (k : Nat) (x z : α) (h : l[k]? = some x) : (l.take k ++ List.replicate (l.length - k) z).set k x = l.take (k + 1) ++ List.replicate (l.length - (k + 1)) z := by
  have hk : k < l.length := by
    rcases Nat.lt_or_ge k l.length with h' | h'
    · exact h'
    · rw [List.getElem?_eq_none h'] at h; cases h
  apply List.ext_getElem?
  intro i
  have hlt : (l.take k).length = k := by rw [List.length_take]; omega
  have hlt1 : (l.take (k + 1)).length = k + 1 := by rw [List.length_take]; omega
  by_cases h1 : i < k
  · rw [List.getElem?_set_ne (by omega), List.getElem?_append_left (by omega), List.getElem?_append_left (by omega), List.getElem?_take, List.getElem?_take, if_pos h1, if_pos (by omega)]
  · by_cases h2 : i = k
    · subst h2
      rw [List.getElem?_set_self (by simp; omega), List.getElem?_append_left (by omega), List.getElem?_take, if_pos (by omega), h]
    · rw [List.getElem?_set_ne (by omega), List.getElem?_append_right (by omega), List.getElem?_append_right (by omega), hlt, hlt1, List.getElem?_replicate, List.getElem?_replicate]
      by_cases h3 : i < l.length
      · rw [if_pos (by omega), if_pos (by omega)]
      · rw [if_neg (by omega), if_neg (by omega)]

/-- A row of the call's own, read as a list of elements. -/
def Own {α : Type} (enc : α → Nat → Value) (sz T base : Nat) (w : World) (v : Value) (xs : List α) : Prop := w.ownsRow base T sz v xs.length (cellsOf enc sz xs)

section
variable {α : Type} {enc : α → Nat → Value} {sz T base : Nat} {w w' : World} {v : Value} {xs : List α}
theorem Own.form (h : Own enc sz T base w v xs) : ∃ A cap, v = .slice A xs.length cap ∧ xs.length ≤ cap ∧ cap ≤ 9223372036854775807 ∧ (∀ a, A = some a → base ≤ a.block ∧ a.block < w.heap.size) ∧ RdT enc sz w A xs := by
  have hlen := h.1
  rcases h.2 with ⟨rfl, h0⟩ | ⟨g, cap, cur, rfl, hg, hh, hn, hm, hsz, htake⟩
  · have : xs = [] := List.length_eq_zero_iff.1 h0
    subst this
    exact ⟨none, 0, rfl, Nat.le_refl _, by omega, fun a ha => (by cases ha), RdT.none_⟩
  · have hlt : g < w.heap.size := by
      rcases Nat.lt_or_ge g w.heap.size with h' | h'
      · exact h'
      · rw [Array.getElem?_eq_none h'] at hh; cases hh
    refine ⟨some ⟨g, 0, none⟩, cap, rfl, hn, by unfold maxLen at hm; omega, fun a ha => (by cases ha; exact ⟨hg, hlt⟩), fun hp => ⟨g, 0, rfl, hlt, fun i x hi j hj => ?_⟩⟩
    have hi' : i < xs.length := by
      rcases Nat.lt_or_ge i xs.length with h' | h'
      · exact h'
      · rw [List.getElem?_eq_none h'] at hi; cases hi
    have hb : i * sz + j < xs.length * sz := by
      have : (i + 1) * sz ≤ xs.length * sz := Nat.mul_le_mul_right _ hi'
      rw [Nat.add_mul] at this
      omega
    rw [show (0 : Nat) + i * sz + j = i * sz + j by omega]
    rw [World.ownsRow.cellAt (base := base) (e := T) (size := sz) (n := xs.length) (cap := cap) (xs := cellsOf enc sz xs) ⟨hlen, .inr ⟨g, cap, cur, rfl, hg, hh, hn, hm, hsz, htake⟩⟩ _ hb]
    exact cellsOf_get xs i j x hi hj
theorem Own.keep (h : Own enc sz T base w v xs) (hb : ∀ k, base ≤ k → k < w.heap.size → v.ownBlock = some k → w'.heap[k]? = w.heap[k]?) : Own enc sz T base w' v xs := by
  refine ⟨h.1, ?_⟩
  rcases h.2 with h | ⟨g, cap, cur, rfl, hg, hh, r⟩
  · exact .inl h
  · have hlt : g < w.heap.size := by
      rcases Nat.lt_or_ge g w.heap.size with h' | h'
      · exact h'
      · rw [Array.getElem?_eq_none h'] at hh; cases hh
    exact .inr ⟨g, cap, cur, rfl, hg, (hb g hg hlt rfl).trans hh, r⟩
theorem Own.below (h : Own enc sz T base w v xs) (hb : Below w.heap.size w w') : Own enc sz T base w' v xs := h.keep (fun k _ hl _ => hb.block k hl)
theorem Own.kp {ex : List Nat} (h : Own enc sz T base w v xs) (hb : Kp ex w w') (he : ∀ k ∈ ex, v.ownBlock ≠ some k) : Own enc sz T base w' v xs := h.keep (fun k _ hl hv => hb.block k hl (fun hm => he k hm hv))
theorem Own.more {base' : Nat} (h : Own enc sz T base w v xs) (hb : base' ≤ base) : Own enc sz T base' w v xs := by
  refine ⟨h.1, ?_⟩
  rcases h.2 with h | ⟨g, cap, cur, rfl, hg, r⟩
  · exact .inl h
  · exact .inr ⟨g, cap, cur, rfl, by omega, r⟩
theorem Own.nil : Own enc sz T base w (.slice none 0 0) ([] : List α) := ⟨by simp [cellsOf], .inl ⟨rfl, rfl⟩⟩
end

end Go.Proofs.Ytamljoffmkcbnaa
