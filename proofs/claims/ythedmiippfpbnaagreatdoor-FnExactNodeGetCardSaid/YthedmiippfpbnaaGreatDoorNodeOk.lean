/- A node that is formed: both texts. -/
import Derived.Test.YthedmiippfpbnaaGreatDoorPtr
import Derived.Test.YthedmiippfpbnaaGreatDoorQuiet
namespace Go.Proofs.YthedmiippfpbnaaGreatDoor
open Go.RowKit
set_option linter.unusedVariables false

set_option maxHeartbeats 1600000 in
theorem nodeOk_any (n : Nd) (w : World) :
    Calls Tryz.prog 32 #[n.v] w fun e w' => e = .returned (.bool (nodeB n)) ∧ Below w.heap.size w w' := by
  have hh := Lib.hid (ptrHole_any n.root)
  have ho := Lib.hid (ptrOk_any n.root)
  obtain ⟨k, li, s, ⟨a, b, z, u, l⟩, d, m⟩ := n
  unfold Nd.v nodeB at *
  unfold Pt.v at *
  dsimp only at *
  by_cases hk : k = 2
  · subst hk
    by_cases q0 : 0 ≤ piecesOf 2 s
    · rcases chain6 (inB li 1 1) (m == piecesOf 2 s) (d == depthB (piecesOf 2 s)) (ptrB ⟨a, b, z, u, l⟩) (holeB ⟨a, b, z, u, l⟩) (l == d) with q1 | ⟨q1, q2⟩ | ⟨q1, q2, q3⟩ | ⟨q1, q2, q3, q4⟩ | ⟨q1, q2, q3, q4, q5⟩ | ⟨q1, q2, q3, q4, q5, q6⟩ | ⟨q1, q2, q3, q4, q5, q6⟩
      all_goals
        try rw [q5] at hh
        go_enter Tryz.func32, Tryz.ntmps32
        go_wp2_with (go_at_call 49; refine (nodePieces_any _ _ _).mono ?_; rintro e w' ⟨rfl, rfl⟩)
        refine wp_quiet_b (by kernel_rfl) (by kernel_rfl) (fun hgrow => ?_)
        repeat (go_big_quiet_step (first | (go_at_call 52; exact quiet_b (hh.out _)) | (go_at_call 51; exact quiet_b (ho.out _)) | (go_at_call 50; exact quiet_s (depthOf_any _ _)) | (go_at_call 44; exact quiet_s (within_any _ _ _ _))))
        refine wpQuiet_nil ?_
        intro w2 hww2
        replace hww2 := below_of_regrown hww2
        clear hgrow
        go_wp2_with fail
        go_ret
        exact ⟨ret_bool (by simp [*]), by (repeat (first | assumption | exact Below.refl _ _ | refine below_alloc ?_ _ | refine Below.drew ?_ | refine below_drewN ?_ _ | refine below_set ?_ (by first | exact Nat.le_refl _ | omega | (simp; done) | (simp; omega)) _ | refine below_kp ?_ (by assumption) (by simp) | refine below_below ?_ (by assumption)))⟩
    · replace q0 : decide (0 ≤ piecesOf 2 s) = false := decide_eq_false q0
      go_enter Tryz.func32, Tryz.ntmps32
      go_wp2_with (go_at_call 49; refine (nodePieces_any _ _ _).mono ?_; rintro e w' ⟨rfl, rfl⟩)
      refine wp_quiet_b (by kernel_rfl) (by kernel_rfl) (fun hgrow => ?_)
      repeat (go_big_quiet_step (first | (go_at_call 52; exact quiet_b (hh.out _)) | (go_at_call 51; exact quiet_b (ho.out _)) | (go_at_call 50; exact quiet_s (depthOf_any _ _)) | (go_at_call 44; exact quiet_s (within_any _ _ _ _))))
      refine wpQuiet_nil ?_
      intro w2 hww2
      replace hww2 := below_of_regrown hww2
      clear hgrow
      go_wp2_with fail
      go_ret
      exact ⟨ret_bool (by simp [*]), by (repeat (first | assumption | exact Below.refl _ _ | refine below_alloc ?_ _ | refine Below.drew ?_ | refine below_drewN ?_ _ | refine below_set ?_ (by first | exact Nat.le_refl _ | omega | (simp; done) | (simp; omega)) _ | refine below_kp ?_ (by assumption) (by simp) | refine below_below ?_ (by assumption)))⟩
  · have hk' := hk
    replace hk : (k == 2) = false := by simpa using hk
    by_cases q0 : 0 ≤ piecesOf k s
    · rcases chain6 (inB li 1 9) (m == piecesOf k s) (d == depthB (piecesOf k s)) (ptrB ⟨a, b, z, u, l⟩) (holeB ⟨a, b, z, u, l⟩) (l == d) with q1 | ⟨q1, q2⟩ | ⟨q1, q2, q3⟩ | ⟨q1, q2, q3, q4⟩ | ⟨q1, q2, q3, q4, q5⟩ | ⟨q1, q2, q3, q4, q5, q6⟩ | ⟨q1, q2, q3, q4, q5, q6⟩
      all_goals
        try rw [q5] at hh
        go_enter Tryz.func32, Tryz.ntmps32
        go_wp2_with (go_at_call 49; refine (nodePieces_any _ _ _).mono ?_; rintro e w' ⟨rfl, rfl⟩)
        refine wp_quiet_b (by kernel_rfl) (by kernel_rfl) (fun hgrow => ?_)
        repeat (go_big_quiet_step (first | (go_at_call 52; exact quiet_b (hh.out _)) | (go_at_call 51; exact quiet_b (ho.out _)) | (go_at_call 50; exact quiet_s (depthOf_any _ _)) | (go_at_call 44; exact quiet_s (within_any _ _ _ _))))
        refine wpQuiet_nil ?_
        intro w2 hww2
        replace hww2 := below_of_regrown hww2
        clear hgrow
        go_wp2_with fail
        go_ret
        exact ⟨ret_bool (by simp [*]), by (repeat (first | assumption | exact Below.refl _ _ | refine below_alloc ?_ _ | refine Below.drew ?_ | refine below_drewN ?_ _ | refine below_set ?_ (by first | exact Nat.le_refl _ | omega | (simp; done) | (simp; omega)) _ | refine below_kp ?_ (by assumption) (by simp) | refine below_below ?_ (by assumption)))⟩
    · replace q0 : decide (0 ≤ piecesOf k s) = false := decide_eq_false q0
      go_enter Tryz.func32, Tryz.ntmps32
      go_wp2_with (go_at_call 49; refine (nodePieces_any _ _ _).mono ?_; rintro e w' ⟨rfl, rfl⟩)
      refine wp_quiet_b (by kernel_rfl) (by kernel_rfl) (fun hgrow => ?_)
      repeat (go_big_quiet_step (first | (go_at_call 52; exact quiet_b (hh.out _)) | (go_at_call 51; exact quiet_b (ho.out _)) | (go_at_call 50; exact quiet_s (depthOf_any _ _)) | (go_at_call 44; exact quiet_s (within_any _ _ _ _))))
      refine wpQuiet_nil ?_
      intro w2 hww2
      replace hww2 := below_of_regrown hww2
      clear hgrow
      go_wp2_with fail
      go_ret
      exact ⟨ret_bool (by simp [*]), by (repeat (first | assumption | exact Below.refl _ _ | refine below_alloc ?_ _ | refine Below.drew ?_ | refine below_drewN ?_ _ | refine below_set ?_ (by first | exact Nat.le_refl _ | omega | (simp; done) | (simp; omega)) _ | refine below_kp ?_ (by assumption) (by simp) | refine below_below ?_ (by assumption)))⟩

set_option maxHeartbeats 1600000 in
theorem specNodeOk_any (n : Nd) (w : World) :
    Calls Tryz.prog 10 #[n.v] w fun e w' => e = .returned (.bool (nodeB n)) ∧ Below w.heap.size w w' := by
  have hh := Lib.hid (specPtrHole_any n.root)
  have ho := Lib.hid (specPtrOk_any n.root)
  obtain ⟨k, li, s, ⟨a, b, z, u, l⟩, d, m⟩ := n
  unfold Nd.v nodeB at *
  unfold Pt.v at *
  dsimp only at *
  by_cases hk : k = 2
  · subst hk
    by_cases q0 : 0 ≤ piecesOf 2 s
    · have q0' : (decide (piecesOf 2 s < 0)) = false := decide_eq_false (by omega)
      rcases chain6 (m == piecesOf 2 s) (d == depthB (piecesOf 2 s)) (ptrB ⟨a, b, z, u, l⟩) (inB li 1 1) (holeB ⟨a, b, z, u, l⟩) (l == d) with q1 | ⟨q1, q2⟩ | ⟨q1, q2, q3⟩ | ⟨q1, q2, q3, q4⟩ | ⟨q1, q2, q3, q4, q5⟩ | ⟨q1, q2, q3, q4, q5, q6⟩ | ⟨q1, q2, q3, q4, q5, q6⟩
      · have n1 : (m != piecesOf 2 s) = true := by rw [bne, q1]; rfl
        go_enter Tryz.func10, Tryz.ntmps10
        go_wp2_with (go_at_call 22; refine (specNodePieces_any _ _ _).mono ?_; rintro e w' ⟨rfl, rfl⟩)
        refine wp_quiet_b (by kernel_rfl) (by kernel_rfl) (fun hgrow => ?_)
        repeat (go_big_quiet_step (first | (go_at_call 21; exact quiet_b (hh.out _)) | (go_at_call 20; exact quiet_b (ho.out _)) | (go_at_call 23; exact quiet_s (l8Depth_any _ _)) | (go_at_call 24; exact quiet_s (l6In_any _ _ _ _))))
        refine wpQuiet_nil ?_
        intro w2 hww2
        replace hww2 := below_of_regrown hww2
        clear hgrow
        go_wp2_with fail
        go_ret
        exact ⟨ret_bool (by simp [*]), by (repeat (first | assumption | exact Below.refl _ _ | refine below_alloc ?_ _ | refine Below.drew ?_ | refine below_drewN ?_ _ | refine below_set ?_ (by first | exact Nat.le_refl _ | omega | (simp; done) | (simp; omega)) _ | refine below_kp ?_ (by assumption) (by simp) | refine below_below ?_ (by assumption)))⟩
      · have n1 : (m != piecesOf 2 s) = false := by rw [bne, q1]; rfl
        have n2 : (d != depthB (piecesOf 2 s)) = true := by rw [bne, q2]; rfl
        go_enter Tryz.func10, Tryz.ntmps10
        go_wp2_with (go_at_call 22; refine (specNodePieces_any _ _ _).mono ?_; rintro e w' ⟨rfl, rfl⟩)
        refine wp_quiet_b (by kernel_rfl) (by kernel_rfl) (fun hgrow => ?_)
        repeat (go_big_quiet_step (first | (go_at_call 21; exact quiet_b (hh.out _)) | (go_at_call 20; exact quiet_b (ho.out _)) | (go_at_call 23; exact quiet_s (l8Depth_any _ _)) | (go_at_call 24; exact quiet_s (l6In_any _ _ _ _))))
        refine wpQuiet_nil ?_
        intro w2 hww2
        replace hww2 := below_of_regrown hww2
        clear hgrow
        go_wp2_with fail
        go_ret
        exact ⟨ret_bool (by simp [*]), by (repeat (first | assumption | exact Below.refl _ _ | refine below_alloc ?_ _ | refine Below.drew ?_ | refine below_drewN ?_ _ | refine below_set ?_ (by first | exact Nat.le_refl _ | omega | (simp; done) | (simp; omega)) _ | refine below_kp ?_ (by assumption) (by simp) | refine below_below ?_ (by assumption)))⟩
      · have n1 : (m != piecesOf 2 s) = false := by rw [bne, q1]; rfl
        have n2 : (d != depthB (piecesOf 2 s)) = false := by rw [bne, q2]; rfl
        try rw [q3] at ho
        go_enter Tryz.func10, Tryz.ntmps10
        go_wp2_with (go_at_call 22; refine (specNodePieces_any _ _ _).mono ?_; rintro e w' ⟨rfl, rfl⟩)
        refine wp_quiet_b (by kernel_rfl) (by kernel_rfl) (fun hgrow => ?_)
        repeat (go_big_quiet_step (first | (go_at_call 21; exact quiet_b (hh.out _)) | (go_at_call 20; exact quiet_b (ho.out _)) | (go_at_call 23; exact quiet_s (l8Depth_any _ _)) | (go_at_call 24; exact quiet_s (l6In_any _ _ _ _))))
        refine wpQuiet_nil ?_
        intro w2 hww2
        replace hww2 := below_of_regrown hww2
        clear hgrow
        go_wp2_with fail
        go_ret
        exact ⟨ret_bool (by simp [*]), by (repeat (first | assumption | exact Below.refl _ _ | refine below_alloc ?_ _ | refine Below.drew ?_ | refine below_drewN ?_ _ | refine below_set ?_ (by first | exact Nat.le_refl _ | omega | (simp; done) | (simp; omega)) _ | refine below_kp ?_ (by assumption) (by simp) | refine below_below ?_ (by assumption)))⟩
      all_goals
        have n1 : (m != piecesOf 2 s) = false := by rw [bne, q1]; rfl
        have n2 : (d != depthB (piecesOf 2 s)) = false := by rw [bne, q2]; rfl
        try rw [q3] at ho
        try rw [q5] at hh
        go_enter Tryz.func10, Tryz.ntmps10
        go_wp2_with (go_at_call 22; refine (specNodePieces_any _ _ _).mono ?_; rintro e w' ⟨rfl, rfl⟩)
        refine wp_quiet_b (by kernel_rfl) (by kernel_rfl) (fun hgrow => ?_)
        repeat (go_big_quiet_step (first | (go_at_call 21; exact quiet_b (hh.out _)) | (go_at_call 20; exact quiet_b (ho.out _)) | (go_at_call 23; exact quiet_s (l8Depth_any _ _)) | (go_at_call 24; exact quiet_s (l6In_any _ _ _ _))))
        refine wpQuiet_nil ?_
        intro w2 hww2
        replace hww2 := below_of_regrown hww2
        clear hgrow
        obtain ⟨c2, f2⟩ := bcell hww2
        go_wp2_with (first | (go_at_call 24; refine (l6In_any _ _ _ _).mono ?_; rintro e w' ⟨rfl, rfl⟩) | (go_at_call 21; refine (hh.out _).mono ?_; rintro e w4 ⟨rfl, hb4⟩; obtain ⟨c4, f4⟩ := bcell (below_below hww2 hb4)))
        all_goals go_ret
        all_goals exact ⟨ret_bool (by simp [*]), by (repeat (first | assumption | exact Below.refl _ _ | refine below_alloc ?_ _ | refine Below.drew ?_ | refine below_drewN ?_ _ | refine below_set ?_ (by first | exact Nat.le_refl _ | omega | (simp; done) | (simp; omega)) _ | refine below_kp ?_ (by assumption) (by simp) | refine below_below ?_ (by assumption)))⟩
    · have q0' : (decide (piecesOf 2 s < 0)) = true := decide_eq_true (by omega)
      have q0'' : (decide (0 ≤ piecesOf 2 s)) = false := decide_eq_false q0
      clear q0
      go_enter Tryz.func10, Tryz.ntmps10
      go_wp2_with (go_at_call 22; refine (specNodePieces_any _ _ _).mono ?_; rintro e w' ⟨rfl, rfl⟩)
      refine wp_quiet_b (by kernel_rfl) (by kernel_rfl) (fun hgrow => ?_)
      repeat (go_big_quiet_step (first | (go_at_call 21; exact quiet_b (hh.out _)) | (go_at_call 20; exact quiet_b (ho.out _)) | (go_at_call 23; exact quiet_s (l8Depth_any _ _)) | (go_at_call 24; exact quiet_s (l6In_any _ _ _ _))))
      refine wpQuiet_nil ?_
      intro w2 hww2
      replace hww2 := below_of_regrown hww2
      clear hgrow
      go_wp2_with fail
      go_ret
      exact ⟨ret_bool (by simp [*]), by (repeat (first | assumption | exact Below.refl _ _ | refine below_alloc ?_ _ | refine Below.drew ?_ | refine below_drewN ?_ _ | refine below_set ?_ (by first | exact Nat.le_refl _ | omega | (simp; done) | (simp; omega)) _ | refine below_kp ?_ (by assumption) (by simp) | refine below_below ?_ (by assumption)))⟩
  · have hk' := hk
    replace hk : (k == 2) = false := by simpa using hk
    by_cases q0 : 0 ≤ piecesOf k s
    · have q0' : (decide (piecesOf k s < 0)) = false := decide_eq_false (by omega)
      rcases chain6 (m == piecesOf k s) (d == depthB (piecesOf k s)) (ptrB ⟨a, b, z, u, l⟩) (inB li 1 9) (holeB ⟨a, b, z, u, l⟩) (l == d) with q1 | ⟨q1, q2⟩ | ⟨q1, q2, q3⟩ | ⟨q1, q2, q3, q4⟩ | ⟨q1, q2, q3, q4, q5⟩ | ⟨q1, q2, q3, q4, q5, q6⟩ | ⟨q1, q2, q3, q4, q5, q6⟩
      · have n1 : (m != piecesOf k s) = true := by rw [bne, q1]; rfl
        go_enter Tryz.func10, Tryz.ntmps10
        go_wp2_with (go_at_call 22; refine (specNodePieces_any _ _ _).mono ?_; rintro e w' ⟨rfl, rfl⟩)
        refine wp_quiet_b (by kernel_rfl) (by kernel_rfl) (fun hgrow => ?_)
        repeat (go_big_quiet_step (first | (go_at_call 21; exact quiet_b (hh.out _)) | (go_at_call 20; exact quiet_b (ho.out _)) | (go_at_call 23; exact quiet_s (l8Depth_any _ _)) | (go_at_call 24; exact quiet_s (l6In_any _ _ _ _))))
        refine wpQuiet_nil ?_
        intro w2 hww2
        replace hww2 := below_of_regrown hww2
        clear hgrow
        go_wp2_with fail
        go_ret
        exact ⟨ret_bool (by simp [*]), by (repeat (first | assumption | exact Below.refl _ _ | refine below_alloc ?_ _ | refine Below.drew ?_ | refine below_drewN ?_ _ | refine below_set ?_ (by first | exact Nat.le_refl _ | omega | (simp; done) | (simp; omega)) _ | refine below_kp ?_ (by assumption) (by simp) | refine below_below ?_ (by assumption)))⟩
      · have n1 : (m != piecesOf k s) = false := by rw [bne, q1]; rfl
        have n2 : (d != depthB (piecesOf k s)) = true := by rw [bne, q2]; rfl
        go_enter Tryz.func10, Tryz.ntmps10
        go_wp2_with (go_at_call 22; refine (specNodePieces_any _ _ _).mono ?_; rintro e w' ⟨rfl, rfl⟩)
        refine wp_quiet_b (by kernel_rfl) (by kernel_rfl) (fun hgrow => ?_)
        repeat (go_big_quiet_step (first | (go_at_call 21; exact quiet_b (hh.out _)) | (go_at_call 20; exact quiet_b (ho.out _)) | (go_at_call 23; exact quiet_s (l8Depth_any _ _)) | (go_at_call 24; exact quiet_s (l6In_any _ _ _ _))))
        refine wpQuiet_nil ?_
        intro w2 hww2
        replace hww2 := below_of_regrown hww2
        clear hgrow
        go_wp2_with fail
        go_ret
        exact ⟨ret_bool (by simp [*]), by (repeat (first | assumption | exact Below.refl _ _ | refine below_alloc ?_ _ | refine Below.drew ?_ | refine below_drewN ?_ _ | refine below_set ?_ (by first | exact Nat.le_refl _ | omega | (simp; done) | (simp; omega)) _ | refine below_kp ?_ (by assumption) (by simp) | refine below_below ?_ (by assumption)))⟩
      · have n1 : (m != piecesOf k s) = false := by rw [bne, q1]; rfl
        have n2 : (d != depthB (piecesOf k s)) = false := by rw [bne, q2]; rfl
        try rw [q3] at ho
        go_enter Tryz.func10, Tryz.ntmps10
        go_wp2_with (go_at_call 22; refine (specNodePieces_any _ _ _).mono ?_; rintro e w' ⟨rfl, rfl⟩)
        refine wp_quiet_b (by kernel_rfl) (by kernel_rfl) (fun hgrow => ?_)
        repeat (go_big_quiet_step (first | (go_at_call 21; exact quiet_b (hh.out _)) | (go_at_call 20; exact quiet_b (ho.out _)) | (go_at_call 23; exact quiet_s (l8Depth_any _ _)) | (go_at_call 24; exact quiet_s (l6In_any _ _ _ _))))
        refine wpQuiet_nil ?_
        intro w2 hww2
        replace hww2 := below_of_regrown hww2
        clear hgrow
        go_wp2_with fail
        go_ret
        exact ⟨ret_bool (by simp [*]), by (repeat (first | assumption | exact Below.refl _ _ | refine below_alloc ?_ _ | refine Below.drew ?_ | refine below_drewN ?_ _ | refine below_set ?_ (by first | exact Nat.le_refl _ | omega | (simp; done) | (simp; omega)) _ | refine below_kp ?_ (by assumption) (by simp) | refine below_below ?_ (by assumption)))⟩
      all_goals
        have n1 : (m != piecesOf k s) = false := by rw [bne, q1]; rfl
        have n2 : (d != depthB (piecesOf k s)) = false := by rw [bne, q2]; rfl
        try rw [q3] at ho
        try rw [q5] at hh
        go_enter Tryz.func10, Tryz.ntmps10
        go_wp2_with (go_at_call 22; refine (specNodePieces_any _ _ _).mono ?_; rintro e w' ⟨rfl, rfl⟩)
        refine wp_quiet_b (by kernel_rfl) (by kernel_rfl) (fun hgrow => ?_)
        repeat (go_big_quiet_step (first | (go_at_call 21; exact quiet_b (hh.out _)) | (go_at_call 20; exact quiet_b (ho.out _)) | (go_at_call 23; exact quiet_s (l8Depth_any _ _)) | (go_at_call 24; exact quiet_s (l6In_any _ _ _ _))))
        refine wpQuiet_nil ?_
        intro w2 hww2
        replace hww2 := below_of_regrown hww2
        clear hgrow
        obtain ⟨c2, f2⟩ := bcell hww2
        go_wp2_with (first | (go_at_call 24; refine (l6In_any _ _ _ _).mono ?_; rintro e w' ⟨rfl, rfl⟩) | (go_at_call 21; refine (hh.out _).mono ?_; rintro e w4 ⟨rfl, hb4⟩; obtain ⟨c4, f4⟩ := bcell (below_below hww2 hb4)))
        all_goals go_ret
        all_goals exact ⟨ret_bool (by simp [*]), by (repeat (first | assumption | exact Below.refl _ _ | refine below_alloc ?_ _ | refine Below.drew ?_ | refine below_drewN ?_ _ | refine below_set ?_ (by first | exact Nat.le_refl _ | omega | (simp; done) | (simp; omega)) _ | refine below_kp ?_ (by assumption) (by simp) | refine below_below ?_ (by assumption)))⟩
    · have q0' : (decide (piecesOf k s < 0)) = true := decide_eq_true (by omega)
      have q0'' : (decide (0 ≤ piecesOf k s)) = false := decide_eq_false q0
      clear q0
      go_enter Tryz.func10, Tryz.ntmps10
      go_wp2_with (go_at_call 22; refine (specNodePieces_any _ _ _).mono ?_; rintro e w' ⟨rfl, rfl⟩)
      refine wp_quiet_b (by kernel_rfl) (by kernel_rfl) (fun hgrow => ?_)
      repeat (go_big_quiet_step (first | (go_at_call 21; exact quiet_b (hh.out _)) | (go_at_call 20; exact quiet_b (ho.out _)) | (go_at_call 23; exact quiet_s (l8Depth_any _ _)) | (go_at_call 24; exact quiet_s (l6In_any _ _ _ _))))
      refine wpQuiet_nil ?_
      intro w2 hww2
      replace hww2 := below_of_regrown hww2
      clear hgrow
      go_wp2_with fail
      go_ret
      exact ⟨ret_bool (by simp [*]), by (repeat (first | assumption | exact Below.refl _ _ | refine below_alloc ?_ _ | refine Below.drew ?_ | refine below_drewN ?_ _ | refine below_set ?_ (by first | exact Nat.le_refl _ | omega | (simp; done) | (simp; omega)) _ | refine below_kp ?_ (by assumption) (by simp) | refine below_below ?_ (by assumption)))⟩

end Go.Proofs.YthedmiippfpbnaaGreatDoor
