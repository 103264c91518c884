/- How many pieces a node of so many bytes has: both texts return one number. -/
import Derived.Test.YtamljoffmkcbnaaBase
namespace Go.Proofs.Ytamljoffmkcbnaa
open Go.RowKit

/-- How many bytes a piece of a kind has; 0 if there is no such kind. -/
def eachOf (kind : Int) : Int := if kind = 1 then 12 else if kind = 2 then 128 else 0
/-- How many pieces. -/
def piecesOf (kind size : Int) : Int := if eachOf kind = 0 then -1 else if inB size 0 (16 * eachOf kind) = true then (size + eachOf kind - 1) / eachOf kind else -1

theorem eachOf_cases (k : Int) : (k = 1 ∧ eachOf k = 12) ∨ (k = 2 ∧ eachOf k = 128) ∨ (k ≠ 1 ∧ k ≠ 2 ∧ eachOf k = 0) := by
  unfold eachOf
  by_cases h1 : k = 1
  · simp [h1]
  · by_cases h2 : k = 2
    · simp [h2]
    · simp [h1, h2]

theorem pieces_1 (s : Int) (h : inB s 0 192 = true) : piecesOf 1 s = (s + 12 - 1) / 12 := by simp [piecesOf, eachOf, h]
theorem pieces_1n (s : Int) (h : inB s 0 192 = false) : piecesOf 1 s = -1 := by simp [piecesOf, eachOf, h]
theorem pieces_2 (s : Int) (h : inB s 0 2048 = true) : piecesOf 2 s = (s + 128 - 1) / 128 := by simp [piecesOf, eachOf, h]
theorem pieces_2n (s : Int) (h : inB s 0 2048 = false) : piecesOf 2 s = -1 := by simp [piecesOf, eachOf, h]
theorem pieces_0 (k s : Int) (h1 : k ≠ 1) (h2 : k ≠ 2) : piecesOf k s = -1 := by simp [piecesOf, eachOf, h1, h2]

end Go.Proofs.Ytamljoffmkcbnaa
