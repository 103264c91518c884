/- Many stores into a row of the call's own, and the row with one element more. -/
import Derived.Test.YtjalboplilolkaaDoorSlice
import Derived.Laws.OwnMore
import Derived.Laws.IdiomCopy
namespace Go.Proofs.YtjalboplilolkaaDoor
open Go.RowKit
set_option linter.unusedVariables false

/-- A list with others laid over it from a place on. -/
def setL {α : Type} : List α → Nat → List α → List α
  | xs, _, [] => xs
  | xs, o, v :: r => setL (xs.set o v) (o + 1) r
theorem setL_length {α : Type} : ∀ (vs xs : List α) (o : Nat), (setL xs o vs).length = xs.length
  | [], xs, o => rfl
  | v :: r, xs, o => by rw [setL, setL_length r]; simp
theorem setL_eq {α : Type} : ∀ (vs xs : List α) (o : Nat), o + vs.length ≤ xs.length → setL xs o vs = xs.take o ++ vs ++ xs.drop (o + vs.length)
  | [], xs, o, h => by simp [setL]
  | v :: r, xs, o, h => by
    simp only [List.length_cons] at h
    rw [setL, setL_eq r _ _ (by simp; omega)]
    have h1 : (xs.take o).length = o := by rw [List.length_take]; omega
    have t : (xs.set o v).take (o + 1) = xs.take o ++ [v] := by
      apply List.ext_getElem?
      intro j
      rw [List.getElem?_take]
      by_cases hj : j < o
      · rw [if_pos (by omega), List.getElem?_set_ne (by omega), List.getElem?_append_left (by rw [h1]; exact hj), List.getElem?_take, if_pos hj]
      · by_cases hj2 : j = o
        · subst hj2
          rw [if_pos (by omega), List.getElem?_set_self (by omega), List.getElem?_append_right (by omega), h1]
          simp
        · rw [if_neg (by omega), List.getElem?_eq_none (by rw [List.length_append, h1]; simp; omega)]
    have d : (xs.set o v).drop (o + 1 + r.length) = xs.drop (o + 1 + r.length) := by
      apply List.ext_getElem?
      intro j
      rw [List.getElem?_drop, List.getElem?_drop, List.getElem?_set_ne (by omega)]
    rw [t, d, List.length_cons, show o + (r.length + 1) = o + 1 + r.length by omega]
    simp

theorem ownsRow_setCells {base T sz g n cap : Nat} : ∀ (vs : List Value) (o : Nat) (w : World) (xs : List Value), w.ownsRow base T sz (.slice (some ⟨g, 0, none⟩) n cap) n xs → (w.setCells g o vs).ownsRow base T sz (.slice (some ⟨g, 0, none⟩) n cap) n (setL xs o vs)
  | [], _, _, _, h => h
  | v :: r, o, w, xs, h => ownsRow_setCells r (o + 1) _ _ (h.stored o v).1

/-- One element more, where there is room: its cells hold something. -/
theorem ownsRow_longer {w : World} {base T sz g n cap : Nat} {xs : List Value} (h : w.ownsRow base T sz (.slice (some ⟨g, 0, none⟩) n cap) n xs) (hc : n + 1 ≤ cap) : ∃ ys, ys.length = sz ∧ w.ownsRow base T sz (.slice (some ⟨g, 0, none⟩) (n + 1) cap) (n + 1) (xs ++ ys) := by
  have hl := h.1
  rcases h.2 with ⟨h', _⟩ | ⟨g', cap', cur, h', hb, hg, hnc, hcm, hcs, htake⟩
  · simp at h'
  · simp only [Value.slice.injEq, Option.some.injEq, Addr.mk.injEq, and_true, true_and] at h'
    obtain ⟨rfl, rfl⟩ := h'
    have hm : (n + 1) * sz ≤ cap * sz := Nat.mul_le_mul_right _ hc
    have hcl : cur.toList.length = cap * sz := by simpa using hcs
    have he : (n + 1) * sz = n * sz + sz := by rw [Nat.add_mul, Nat.one_mul]
    refine ⟨(cur.toList.drop (n * sz)).take sz, by rw [List.length_take, List.length_drop, hcl]; omega, ?_⟩
    refine ⟨?_, .inr ⟨g, cap, cur, rfl, hb, hg, hc, hcm, hcs, ?_⟩⟩
    · rw [List.length_append, hl, List.length_take, List.length_drop, hcl]; omega
    · rw [← htake, he, List.take_add]

/-- The row behind an insertion: the cells behind the place moved up by one element, then the element laid in. -/
theorem setL_insert {α : Type} {enc : α → Nat → Value} (es : List α) (x : α) (i : Nat) (hi : i ≤ es.length) (ys : List Value) (hy : ys.length = 2) :
    setL (setL (cellsOf enc 2 es ++ ys) ((i + 1) * 2) (cellsOf enc 2 (es.drop i))) (i * 2) (cellsOf enc 2 [x]) = cellsOf enc 2 (es.take i ++ x :: es.drop i) := by
  have hl : (cellsOf enc 2 es).length = es.length * 2 := cellsOf_length es
  have hd : (cellsOf enc 2 (es.drop i)).length = (es.length - i) * 2 := by rw [cellsOf_length, List.length_drop]
  have hx : (cellsOf enc 2 [x]).length = 2 := by rw [cellsOf_length]; rfl
  have ht : (cellsOf enc 2 (es.take i)).length = i * 2 := by rw [cellsOf_length, List.length_take]; congr 1; omega
  have e1 : setL (cellsOf enc 2 es ++ ys) ((i + 1) * 2) (cellsOf enc 2 (es.drop i)) = (cellsOf enc 2 es ++ ys).take ((i + 1) * 2) ++ cellsOf enc 2 (es.drop i) := by
    rw [setL_eq _ _ _ (by rw [List.length_append, hl, hd, hy]; omega), show (cellsOf enc 2 es ++ ys).drop ((i + 1) * 2 + (cellsOf enc 2 (es.drop i)).length) = [] from List.drop_of_length_le (by rw [List.length_append, hl, hd, hy]; omega), List.append_nil]
  have hA : ((cellsOf enc 2 es ++ ys).take ((i + 1) * 2)).length = (i + 1) * 2 := by rw [List.length_take, List.length_append, hl, hy]; omega
  rw [e1, setL_eq _ _ _ (by rw [List.length_append, hA, hd, hx]; omega), hx]
  have e2 : ((cellsOf enc 2 es ++ ys).take ((i + 1) * 2) ++ cellsOf enc 2 (es.drop i)).take (i * 2) = cellsOf enc 2 (es.take i) := by
    rw [List.take_append_of_le_length (by rw [hA]; omega), List.take_take, Nat.min_eq_left (by omega), List.take_append_of_le_length (by rw [hl]; omega), cellsOf_take]
  have e3 : ((cellsOf enc 2 es ++ ys).take ((i + 1) * 2) ++ cellsOf enc 2 (es.drop i)).drop (i * 2 + 2) = cellsOf enc 2 (es.drop i) := by
    rw [show i * 2 + 2 = ((cellsOf enc 2 es ++ ys).take ((i + 1) * 2)).length by rw [hA]; omega]
    exact List.drop_left
  rw [e2, e3, ← cellsOf_append, ← cellsOf_append]
  simp

end Go.Proofs.YtjalboplilolkaaDoor
