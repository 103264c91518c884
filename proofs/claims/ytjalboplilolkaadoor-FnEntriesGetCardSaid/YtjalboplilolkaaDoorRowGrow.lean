/- The new row behind an insertion that grows. -/
import Derived.Test.YtjalboplilolkaaDoorRowSet
namespace Go.Proofs.YtjalboplilolkaaDoor
open Go.RowKit
set_option linter.unusedVariables false

theorem setL_grow {α : Type} {enc : α → Nat → Value} (es : List α) (x : α) (i : Nat) (hi : i ≤ es.length) (R : List Value) (hR : R.length = (es.length + 1) * 2) (ht : R.take (i * 2) = cellsOf enc 2 (es.take i)) :
    setL (setL R (i * 2) (cellsOf enc 2 [x])) ((i + 1) * 2) (cellsOf enc 2 (es.drop i)) = cellsOf enc 2 (es.take i ++ x :: es.drop i) := by
  have hd : (cellsOf enc 2 (es.drop i)).length = (es.length - i) * 2 := by rw [cellsOf_length, List.length_drop]
  have hx : (cellsOf enc 2 [x]).length = 2 := by rw [cellsOf_length]; rfl
  have htl : (cellsOf enc 2 (es.take i)).length = i * 2 := by rw [cellsOf_length, List.length_take]; congr 1; omega
  have e1 : setL R (i * 2) (cellsOf enc 2 [x]) = cellsOf enc 2 (es.take i) ++ cellsOf enc 2 [x] ++ R.drop (i * 2 + 2) := by
    rw [setL_eq _ _ _ (by rw [hR, hx]; omega), ht, hx]
  have hl1 : (setL R (i * 2) (cellsOf enc 2 [x])).length = (es.length + 1) * 2 := by rw [setL_length, hR]
  rw [setL_eq _ _ _ (by rw [hl1, hd]; omega), show (setL R (i * 2) (cellsOf enc 2 [x])).drop ((i + 1) * 2 + (cellsOf enc 2 (es.drop i)).length) = [] from List.drop_of_length_le (by rw [hl1, hd]; omega), List.append_nil, e1]
  have e2 : (cellsOf enc 2 (es.take i) ++ cellsOf enc 2 [x] ++ R.drop (i * 2 + 2)).take ((i + 1) * 2) = cellsOf enc 2 (es.take i) ++ cellsOf enc 2 [x] := by
    rw [List.take_append_of_le_length (by rw [List.length_append, htl, hx]; omega), List.take_of_length_le (by rw [List.length_append, htl, hx]; omega)]
  rw [e2, ← cellsOf_append, ← cellsOf_append]
  simp

end Go.Proofs.YtjalboplilolkaaDoor
