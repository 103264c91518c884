/- How many pieces a node of so many bytes has: both texts return one number. -/
import Derived.Test.YthedmiippfpbnaaGreatDoorBase
namespace Go.Proofs.YthedmiippfpbnaaGreatDoor
open Go.RowKit

/-- How many bytes a piece of a kind has; 0 if there is no such kind. -/
def eachOf (kind : Int) : Int := if kind = 1 then 12 else if kind = 2 then 128 else 0
/-- How many pieces. -/
def piecesOf (kind size : Int) : Int := if eachOf kind = 0 then -1 else if inB size 0 (16 * eachOf kind) = true then (size + eachOf kind - 1) / eachOf kind else -1

theorem eachOf_cases (k : Int) : (k = 1 ∧ eachOf k = 12) ∨ (k = 2 ∧ eachOf k = 128) ∨ (k ≠ 1 ∧ k ≠ 2 ∧ eachOf k = 0) := by
  unfold eachOf
  by_cases h1 : k = 1
  · simp [h1]
  · by_cases h2 : k = 2
    · simp [h2]
    · simp [h1, h2]

theorem pieces_1 (s : Int) (h : inB s 0 192 = true) : piecesOf 1 s = (s + 12 - 1) / 12 := by simp [piecesOf, eachOf, h]
theorem pieces_1n (s : Int) (h : inB s 0 192 = false) : piecesOf 1 s = -1 := by simp [piecesOf, eachOf, h]
theorem pieces_2 (s : Int) (h : inB s 0 2048 = true) : piecesOf 2 s = (s + 128 - 1) / 128 := by simp [piecesOf, eachOf, h]
theorem pieces_2n (s : Int) (h : inB s 0 2048 = false) : piecesOf 2 s = -1 := by simp [piecesOf, eachOf, h]
theorem pieces_0 (k s : Int) (h1 : k ≠ 1) (h2 : k ≠ 2) : piecesOf k s = -1 := by simp [piecesOf, eachOf, h1, h2]

theorem nodePieces_any (k s : Int) (w : World) :
    Calls Tryz.prog 49 #[.int .i64 k, .int .i64 s] w fun e w' => e = .returned (.int .i64 (piecesOf k s)) ∧ w = w' := by
  by_cases h1 : k = 1
  · subst h1
    by_cases h : inB s 0 192 = true
    · rw [pieces_1 s h]
      have hb := inB_true h
      go_enter Tryz.func49, Tryz.ntmps49
      go_wp2_with (go_at_call 44; refine (within_any _ _ _ _).mono ?_; rintro e w' ⟨rfl, rfl⟩)
      go_ret
      exact ⟨rfl, rfl⟩
    · have h' : inB s 0 192 = false := by simpa using h
      rw [pieces_1n s h']
      go_enter Tryz.func49, Tryz.ntmps49
      go_wp2_with (go_at_call 44; refine (within_any _ _ _ _).mono ?_; rintro e w' ⟨rfl, rfl⟩)
      go_ret
      exact ⟨rfl, rfl⟩
  · by_cases h2 : k = 2
    · subst h2
      by_cases h : inB s 0 2048 = true
      · rw [pieces_2 s h]
        have hb := inB_true h
        go_enter Tryz.func49, Tryz.ntmps49
        go_wp2_with (go_at_call 44; refine (within_any _ _ _ _).mono ?_; rintro e w' ⟨rfl, rfl⟩)
        go_ret
        exact ⟨rfl, rfl⟩
      · have h' : inB s 0 2048 = false := by simpa using h
        rw [pieces_2n s h']
        go_enter Tryz.func49, Tryz.ntmps49
        go_wp2_with (go_at_call 44; refine (within_any _ _ _ _).mono ?_; rintro e w' ⟨rfl, rfl⟩)
        go_ret
        exact ⟨rfl, rfl⟩
    · rw [pieces_0 k s h1 h2]
      have e1 : (k == 1) = false := by simpa using h1
      have e2 : (k == 2) = false := by simpa using h2
      clear h1 h2
      go_enter Tryz.func49, Tryz.ntmps49
      go_wp2_with (go_at_call 44; refine (within_any _ _ _ _).mono ?_; rintro e w' ⟨rfl, rfl⟩)
      go_ret
      exact ⟨rfl, rfl⟩

theorem specEach_any (k : Int) (w : World) :
    Calls Tryz.prog 38 #[.int .i64 k] w fun e w' => e = .returned (.int .i64 (eachOf k)) ∧ w = w' := by
  rcases eachOf_cases k with ⟨rfl, h⟩ | ⟨rfl, h⟩ | ⟨h1, h2, h⟩
  · rw [h]
    go_enter Tryz.func38, Tryz.ntmps38
    go_wp2
    go_ret
    exact ⟨rfl, rfl⟩
  · rw [h]
    go_enter Tryz.func38, Tryz.ntmps38
    go_wp2
    go_ret
    exact ⟨rfl, rfl⟩
  · rw [h]
    have e1 : (k == 1) = false := by simpa using h1
    have e2 : (k == 2) = false := by simpa using h2
    clear h1 h2 h
    go_enter Tryz.func38, Tryz.ntmps38
    go_wp2
    go_ret
    exact ⟨rfl, rfl⟩

theorem specPieces_any (s e : Int) (w : World) (h0 : 0 ≤ s) (h1 : s ≤ 2048) (h2 : 1 ≤ e) (h3 : e ≤ 128) :
    Calls Tryz.prog 39 #[.int .i64 s, .int .i64 e] w fun r w' => r = .returned (.int .i64 ((s + e - 1) / e)) ∧ w = w' := by
  go_enter Tryz.func39, Tryz.ntmps39
  go_wp2
  go_ret
  exact ⟨rfl, rfl⟩

theorem specNodePieces_any (k s : Int) (w : World) :
    Calls Tryz.prog 22 #[.int .i64 k, .int .i64 s] w fun e w' => e = .returned (.int .i64 (piecesOf k s)) ∧ w = w' := by
  have hcase := eachOf_cases k
  have HP := Lib.hid (show piecesOf k s = if eachOf k = 0 then -1 else if inB s 0 (16 * eachOf k) = true then (s + eachOf k - 1) / eachOf k else -1 from rfl)
  generalize piecesOf k s = P at HP ⊢
  have hE : eachOf k = 0 ∨ eachOf k = 12 ∨ eachOf k = 128 := by omega
  clear hcase
  have hc := fun w => specEach_any k w
  have HC := Lib.hid hc
  clear hc
  generalize eachOf k = E at HP hE HC
  rcases hE with rfl | rfl | rfl
  · have := HP.out
    simp at this
    subst this
    clear HP
    go_enter Tryz.func22, Tryz.ntmps22
    go_wp2_with (go_at_call 38; refine (HC.out _).mono ?_; rintro e w' ⟨rfl, rfl⟩)
    go_ret
    exact ⟨rfl, rfl⟩
  · by_cases h : inB s 0 192 = true
    · have := HP.out
      simp [h] at this
      subst this
      clear HP
      have hb := inB_true h
      go_enter Tryz.func22, Tryz.ntmps22
      go_wp2_with (first | (go_at_call 38; refine (HC.out _).mono ?_; rintro e w' ⟨rfl, rfl⟩) | (go_at_call 24; refine (l6In_any _ _ _ _).mono ?_; rintro e w' ⟨rfl, rfl⟩) | (go_at_call 39; refine (specPieces_any _ _ _ (by omega) (by omega) (by omega) (by omega)).mono ?_; rintro e w' ⟨rfl, rfl⟩))
      go_ret
      exact ⟨rfl, rfl⟩
    · have h' : inB s 0 192 = false := by simpa using h
      have := HP.out
      simp [h'] at this
      subst this
      clear HP h
      go_enter Tryz.func22, Tryz.ntmps22
      go_wp2_with (first | (go_at_call 38; refine (HC.out _).mono ?_; rintro e w' ⟨rfl, rfl⟩) | (go_at_call 24; refine (l6In_any _ _ _ _).mono ?_; rintro e w' ⟨rfl, rfl⟩))
      go_ret
      exact ⟨rfl, rfl⟩
  · by_cases h : inB s 0 2048 = true
    · have := HP.out
      simp [h] at this
      subst this
      clear HP
      have hb := inB_true h
      go_enter Tryz.func22, Tryz.ntmps22
      go_wp2_with (first | (go_at_call 38; refine (HC.out _).mono ?_; rintro e w' ⟨rfl, rfl⟩) | (go_at_call 24; refine (l6In_any _ _ _ _).mono ?_; rintro e w' ⟨rfl, rfl⟩) | (go_at_call 39; refine (specPieces_any _ _ _ (by omega) (by omega) (by omega) (by omega)).mono ?_; rintro e w' ⟨rfl, rfl⟩))
      go_ret
      exact ⟨rfl, rfl⟩
    · have h' : inB s 0 2048 = false := by simpa using h
      have := HP.out
      simp [h'] at this
      subst this
      clear HP h
      go_enter Tryz.func22, Tryz.ntmps22
      go_wp2_with (first | (go_at_call 38; refine (HC.out _).mono ?_; rintro e w' ⟨rfl, rfl⟩) | (go_at_call 24; refine (l6In_any _ _ _ _).mono ?_; rintro e w' ⟨rfl, rfl⟩))
      go_ret
      exact ⟨rfl, rfl⟩

end Go.Proofs.YthedmiippfpbnaaGreatDoor
