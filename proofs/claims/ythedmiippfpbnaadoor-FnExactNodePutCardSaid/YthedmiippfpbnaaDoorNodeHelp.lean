/- A node that came in: opened; the laws' copies of it. -/
import Derived.Test.YthedmiippfpbnaaDoorLaw
import Derived.Test.YthedmiippfpbnaaDoorPtr
import Derived.Test.YthedmiippfpbnaaDoorTrod
namespace Go.Proofs.YthedmiippfpbnaaDoor
open Go.RowKit
set_option maxRecDepth 100000
set_option linter.unusedVariables false

def Nd.tree (n : Nd) : Value := .agg #[.int .i64 n.root.at_, .int .i64 n.root.birth, .int .i64 n.root.size, .int .i64 n.root.sum, .int .i64 n.root.level, .int .i64 n.depth, .int .i64 n.many]

theorem toPtr_any (p : Pt) (w : World) : Calls Tryd.prog 21 #[p.v] w fun e w' => e = .returned p.v ∧ Below w.heap.size w w' := by
  obtain ⟨a, b, s, u, l⟩ := p
  unfold Pt.v
  dsimp only
  go_enter Tryd.func21, Tryd.ntmps21
  go_wp2_with fail
  refine bodyPost_ret (v := .agg #[.int .i64 a, .int .i64 b, .int .i64 s, .int .i64 u, .int .i64 l]) (by simp [results, Tryd.results21, go_sem]) rfl ⟨rfl, by (repeat (first | assumption | exact Below.refl _ _ | refine below_alloc ?_ _ | refine Below.drew ?_ | refine below_drewN ?_ _ | refine below_set ?_ (by first | exact Nat.le_refl _ | omega | (simp; done) | (simp; omega)) _ | refine below_kp ?_ (by assumption) (by simp) | refine below_below ?_ (by assumption)))⟩

set_option maxHeartbeats 400000 in
theorem toTree_any (n : Nd) (w : World) : Calls Tryd.prog 11 #[n.tree] w fun e w' => e = .returned n.tree ∧ Below w.heap.size w w' := by
  have hp := Lib.hid (toPtr_any n.root)
  obtain ⟨k, li, s, ⟨a, b, z, u, l⟩, d, m⟩ := n
  unfold Nd.tree
  unfold Pt.v at hp
  dsimp only at *
  go_enter Tryd.func11, Tryd.ntmps11
  go_wp2_with (go_at_call 21; refine (hp.out _).mono ?_; rintro e w4 ⟨rfl, hb4⟩; obtain ⟨c4, f4⟩ := bcell hb4)
  refine bodyPost_ret (v := .agg #[.int .i64 a, .int .i64 b, .int .i64 z, .int .i64 u, .int .i64 l, .int .i64 d, .int .i64 m]) (by simp [results, Tryd.results11, go_sem, c4]) rfl ⟨rfl, by (repeat (refine below_set ?_ (by dsimp only; omega) _)); (repeat (first | assumption | exact Below.refl _ _ | refine below_alloc ?_ _ | refine Below.drew ?_ | refine below_drewN ?_ _ | refine below_set ?_ (by first | exact Nat.le_refl _ | omega | (simp; done) | (simp; omega)) _ | refine below_kp ?_ (by assumption) (by simp) | refine below_below ?_ (by assumption)))⟩

set_option maxHeartbeats 400000 in
theorem toNode_any (n : Nd) (w : World) : Calls Tryd.prog 5 #[n.v] w fun e w' => e = .returned n.v ∧ Below w.heap.size w w' := by
  have hp := Lib.hid (toTree_any n)
  obtain ⟨k, li, s, ⟨a, b, z, u, l⟩, d, m⟩ := n
  unfold Nd.v
  unfold Nd.tree at hp
  dsimp only at *
  go_enter Tryd.func5, Tryd.ntmps5
  go_wp2_with (go_at_call 11; refine (hp.out _).mono ?_; rintro e w4 ⟨rfl, hb4⟩; obtain ⟨c4, f4⟩ := bcell hb4)
  refine bodyPost_ret (v := .agg #[.int .i64 k, .int .i64 li, .int .i64 s, .int .i64 a, .int .i64 b, .int .i64 z, .int .i64 u, .int .i64 l, .int .i64 d, .int .i64 m]) (by simp [results, Tryd.results5, go_sem, c4]) rfl ⟨rfl, by (repeat (refine below_set ?_ (by dsimp only; omega) _)); (repeat (first | assumption | exact Below.refl _ _ | refine below_alloc ?_ _ | refine Below.drew ?_ | refine below_drewN ?_ _ | refine below_set ?_ (by first | exact Nat.le_refl _ | omega | (simp; done) | (simp; omega)) _ | refine below_kp ?_ (by assumption) (by simp) | refine below_below ?_ (by assumption)))⟩

section
open Go.ChangeShapes Go.WideShapes Go.ChangeAt
/-- A node that came in. -/
theorem open_node {H : Type} {enc : TypeId × Value → H} {W : World} {r : Reach} {b0 base : Nat} {v : Value} {d : DataW H} {p : List MemPlace} (hval : Value.okWide Tryd.prog W r b0 27 v) (h : DataW.Trod enc Tryd.prog W base (fun _ => true) true 27 v d p) :
    ∃ n : Nd, v = n.v := by
  have c1 : Tryd.prog.cellsOf 3 = 1 := by kernel_rfl
  have c5 : Tryd.prog.cellsOf 23 = 5 := by kernel_rfl
  have c7 : Tryd.prog.cellsOf 25 = 7 := by kernel_rfl
  have c10 : Tryd.prog.cellsOf 27 = 10 := by kernel_rfl
  obtain ⟨⟨cs⟩, rfl, hsz⟩ := okWide_struct Tryd.underlying27 hval
  obtain ⟨fuel, hf⟩ := h
  have hsz' : cs.length = 10 := by rw [← c10]; exact hsz
  match cs, hsz' with
  | [x0, x1, x2, x3, x4, x5, x6, x7, x8, x9], _ =>
    replace hf : DataW.trod enc Tryd.prog W base (fun _ => true) true fuel 27 [x0, x1, x2, x3, x4, x5, x6, x7, x8, x9] = some (d, p) := hf
    obtain ⟨n0, y0, t0⟩ := trod_at Tryd.underlying27 hf 0 rfl rfl rfl c1 rfl
    obtain ⟨n1, y1, t1⟩ := trod_at Tryd.underlying27 hf 1 rfl rfl rfl c1 rfl
    obtain ⟨n2, y2, t2⟩ := trod_at Tryd.underlying27 hf 2 rfl rfl rfl c1 rfl
    obtain ⟨n3, y3, t3⟩ := trod_at Tryd.underlying27 hf 3 rfl rfl rfl c7 rfl
    obtain ⟨m0, z0, s0⟩ := trod_at Tryd.underlying25 t3 0 rfl rfl rfl c5 rfl
    obtain ⟨m1, z1, s1⟩ := trod_at Tryd.underlying25 t3 1 rfl rfl rfl c1 rfl
    obtain ⟨m2, z2, s2⟩ := trod_at Tryd.underlying25 t3 2 rfl rfl rfl c1 rfl
    obtain ⟨k0, u0, p0⟩ := trod_at Tryd.underlying23 s0 0 rfl rfl rfl c1 rfl
    obtain ⟨k1, u1, p1⟩ := trod_at Tryd.underlying23 s0 1 rfl rfl rfl c1 rfl
    obtain ⟨k2, u2, p2⟩ := trod_at Tryd.underlying23 s0 2 rfl rfl rfl c1 rfl
    obtain ⟨k3, u3, p3⟩ := trod_at Tryd.underlying23 s0 3 rfl rfl rfl c1 rfl
    obtain ⟨k4, u4, p4⟩ := trod_at Tryd.underlying23 s0 4 rfl rfl rfl c1 rfl
    obtain ⟨a0, e0, _, _⟩ := DataW.trod_int Tryd.underlying3 t0
    obtain ⟨a1, e1, _, _⟩ := DataW.trod_int Tryd.underlying3 t1
    obtain ⟨a2, e2, _, _⟩ := DataW.trod_int Tryd.underlying3 t2
    obtain ⟨a3, e3, _, _⟩ := DataW.trod_int Tryd.underlying3 p0
    obtain ⟨a4, e4, _, _⟩ := DataW.trod_int Tryd.underlying3 p1
    obtain ⟨a5, e5, _, _⟩ := DataW.trod_int Tryd.underlying3 p2
    obtain ⟨a6, e6, _, _⟩ := DataW.trod_int Tryd.underlying3 p3
    obtain ⟨a7, e7, _, _⟩ := DataW.trod_int Tryd.underlying3 p4
    obtain ⟨a8, e8, _, _⟩ := DataW.trod_int Tryd.underlying3 s1
    obtain ⟨a9, e9, _, _⟩ := DataW.trod_int Tryd.underlying3 s2
    replace e0 : [x0] = [Value.int .i64 a0] := e0
    replace e1 : [x1] = [Value.int .i64 a1] := e1
    replace e2 : [x2] = [Value.int .i64 a2] := e2
    replace e3 : [x3] = [Value.int .i64 a3] := e3
    replace e4 : [x4] = [Value.int .i64 a4] := e4
    replace e5 : [x5] = [Value.int .i64 a5] := e5
    replace e6 : [x6] = [Value.int .i64 a6] := e6
    replace e7 : [x7] = [Value.int .i64 a7] := e7
    replace e8 : [x8] = [Value.int .i64 a8] := e8
    replace e9 : [x9] = [Value.int .i64 a9] := e9
    cases e0; cases e1; cases e2; cases e3; cases e4; cases e5; cases e6; cases e7; cases e8; cases e9
    exact ⟨⟨a0, a1, a2, ⟨a3, a4, a5, a6, a7⟩, a8, a9⟩, rfl⟩
end

end Go.Proofs.YthedmiippfpbnaaDoor
