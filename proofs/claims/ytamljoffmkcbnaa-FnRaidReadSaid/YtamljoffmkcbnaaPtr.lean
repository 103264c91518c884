/- Pointers: the hole, the valid one: both texts. -/
import Derived.Test.YtamljoffmkcbnaaMem
import Derived.Test.YtamljoffmkcbnaaPieces
namespace Go.Proofs.Ytamljoffmkcbnaa
open Go.RowKit
set_option linter.unusedVariables false

/-- A pointer's five numbers. -/
structure Pt where
  at_ : Int
  birth : Int
  size : Int
  sum : Int
  level : Int
def Pt.v (p : Pt) : Value := .agg #[.int .i64 p.at_, .int .i64 p.birth, .int .i64 p.size, .int .i64 p.sum, .int .i64 p.level]
def holeB (p : Pt) : Bool := p.at_ == 0 && (p.birth == 0 && (p.size == 0 && (p.sum == 0 && p.level == 0)))

theorem specPtrHole_any (p : Pt) (w : World) :
    Calls Try.prog 34 #[p.v] w fun e w' => e = .returned (.bool (holeB p)) ∧ Below w.heap.size w w' := by
  obtain ⟨a, b, s, u, l⟩ := p
  unfold Pt.v holeB
  dsimp only
  go_enter Try.func34, Try.ntmps34
  go_wp2_with fail
  all_goals go_ret
  all_goals exact ⟨ret_bool (by simp [*]), (Below.refl _ _).alloc (Nat.le_refl _) _⟩

theorem ptrHole_any (p : Pt) (w : World) :
    Calls Try.prog 26 #[p.v] w fun e w' => e = .returned (.bool (holeB p)) ∧ Below w.heap.size w w' := by
  obtain ⟨a, b, s, u, l⟩ := p
  unfold Pt.v holeB
  dsimp only
  go_enter Try.func26, Try.ntmps26
  go_wp2_with fail
  all_goals go_ret
  all_goals exact ⟨ret_bool (by simp [*]), (Below.refl _ _).alloc (Nat.le_refl _) _⟩

/-- A pointer that a tree may hold. -/
def ptrB (p : Pt) : Bool := holeB p || (inB p.at_ 8 63 && (inB p.birth 1 900 && (inB p.size 1 128 && (inB p.sum 0 99460728 && inB p.level 0 2))))

theorem isRow_any (n : Int) (w : World) : Calls Try.prog 46 #[.int .i64 n] w fun e w' => e = .returned (.bool (inB n 8 63)) ∧ w = w' := by
  go_enter Try.func46, Try.ntmps46
  go_wp2_with (go_at_call 45; refine (within_any _ _ _ _).mono ?_; rintro e w' ⟨rfl, rfl⟩)
  go_ret
  exact ⟨rfl, rfl⟩
theorem l2Row_any (n : Int) (w : World) : Calls Try.prog 55 #[.int .i64 n] w fun e w' => e = .returned (.bool (inB n 8 63)) ∧ w = w' := by
  go_enter Try.func55, Try.ntmps55
  go_wp2_with (go_at_call 56; refine (l6In_any _ _ _ _).mono ?_; rintro e w' ⟨rfl, rfl⟩)
  go_ret
  exact ⟨rfl, rfl⟩

theorem ptrOk_any (p : Pt) (w : World) :
    Calls Try.prog 25 #[p.v] w fun e w' => e = .returned (.bool (ptrB p)) ∧ Below w.heap.size w w' := by
  have hh := Lib.hid (ptrHole_any p)
  obtain ⟨a, b, s, u, l⟩ := p
  unfold Pt.v ptrB at *
  dsimp only
  go_enter Try.func25, Try.ntmps25
  go_wp2_with (first
    | (go_at_call 26; refine (hh.out _).mono ?_; rintro e w1 ⟨rfl, hb1⟩; obtain ⟨c1, f1⟩ := bcell hb1)
    | (go_at_call 46; refine (isRow_any _ _).mono ?_; rintro e w' ⟨rfl, rfl⟩)
    | (go_at_call 45; refine (within_any _ _ _ _).mono ?_; rintro e w' ⟨rfl, rfl⟩))
  all_goals go_ret
  all_goals exact ⟨ret_bool (by simp [*]), by (repeat (first | assumption | exact Below.refl _ _ | refine below_alloc ?_ _ | refine Below.drew ?_ | refine below_drewN ?_ _ | refine below_set ?_ (by first | exact Nat.le_refl _ | omega | (simp; done) | (simp; omega)) _ | refine below_kp ?_ (by assumption) (by simp) | refine below_below ?_ (by assumption)))⟩

theorem specPtrOk_any (p : Pt) (w : World) :
    Calls Try.prog 33 #[p.v] w fun e w' => e = .returned (.bool (ptrB p)) ∧ Below w.heap.size w w' := by
  have hh := Lib.hid (specPtrHole_any p)
  obtain ⟨a, b, s, u, l⟩ := p
  unfold Pt.v ptrB at *
  dsimp only
  go_enter Try.func33, Try.ntmps33
  go_wp2_with (first
    | (go_at_call 34; refine (hh.out _).mono ?_; rintro e w1 ⟨rfl, hb1⟩; obtain ⟨c1, f1⟩ := bcell hb1)
    | (go_at_call 55; refine (l2Row_any _ _).mono ?_; rintro e w' ⟨rfl, rfl⟩)
    | (go_at_call 56; refine (l6In_any _ _ _ _).mono ?_; rintro e w' ⟨rfl, rfl⟩))
  all_goals go_ret
  all_goals exact ⟨ret_bool (by simp [*]), by (repeat (first | assumption | exact Below.refl _ _ | refine below_alloc ?_ _ | refine Below.drew ?_ | refine below_drewN ?_ _ | refine below_set ?_ (by first | exact Nat.le_refl _ | omega | (simp; done) | (simp; omega)) _ | refine below_kp ?_ (by assumption) (by simp) | refine below_below ?_ (by assumption)))⟩

/-- How deep a tree of so many places is. -/
def depthB (n : Int) : Int := if n ≤ 1 then 0 else if n ≤ 4 then 1 else 2
/-- A node: its numbers. -/
structure Nd where
  kind : Int
  links : Int
  size : Int
  root : Pt
  depth : Int
  many : Int
def Nd.v (n : Nd) : Value := .agg #[.int .i64 n.kind, .int .i64 n.links, .int .i64 n.size, .int .i64 n.root.at_, .int .i64 n.root.birth, .int .i64 n.root.size, .int .i64 n.root.sum, .int .i64 n.root.level, .int .i64 n.depth, .int .i64 n.many]
def nodeB (n : Nd) : Bool := decide (0 ≤ piecesOf n.kind n.size) && (inB n.links 1 (if n.kind = 2 then 1 else 9) && (n.many == piecesOf n.kind n.size && (n.depth == depthB (piecesOf n.kind n.size) && (ptrB n.root && (holeB n.root || n.root.level == n.depth)))))

theorem chain6 (c1 c2 c3 c4 c5 c6 : Bool) : c1 = false ∨ (c1 = true ∧ c2 = false) ∨ (c1 = true ∧ c2 = true ∧ c3 = false) ∨ (c1 = true ∧ c2 = true ∧ c3 = true ∧ c4 = false) ∨ (c1 = true ∧ c2 = true ∧ c3 = true ∧ c4 = true ∧ c5 = true) ∨ (c1 = true ∧ c2 = true ∧ c3 = true ∧ c4 = true ∧ c5 = false ∧ c6 = true) ∨ (c1 = true ∧ c2 = true ∧ c3 = true ∧ c4 = true ∧ c5 = false ∧ c6 = false) := by
  cases c1 <;> cases c2 <;> cases c3 <;> cases c4 <;> cases c5 <;> cases c6 <;> simp

end Go.Proofs.Ytamljoffmkcbnaa
