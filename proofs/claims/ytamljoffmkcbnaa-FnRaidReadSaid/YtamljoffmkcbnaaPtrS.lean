/- Lists of pointers: what the laws' own helpers over them return; the argument opened. -/
import Derived.Test.YtamljoffmkcbnaaAppend
import Derived.Test.YtamljoffmkcbnaaQuiet
import Derived.Test.YtamljoffmkcbnaaPtr
import Derived.Test.YtamljoffmkcbnaaTrod
import Derived.Deep.Slices
import Derived.Laws.ResultCell
namespace Go.Proofs.Ytamljoffmkcbnaa
open Go.RowKit
set_option maxRecDepth 100000
set_option linter.unusedVariables false
set_option linter.unusedSimpArgs false

def encP (p : Pt) : Nat → Value
  | 0 => .int .i64 p.at_
  | 1 => .int .i64 p.birth
  | 2 => .int .i64 p.size
  | 3 => .int .i64 p.sum
  | _ => .int .i64 p.level
theorem oneP : OneC encP := fun x j => by
  rcases j with _ | _ | _ | _ | j <;> rfl
def zeroP : Pt := ⟨0, 0, 0, 0, 0⟩
theorem info_ptr : (Try.prog.info? 29).map (fun i => (i.zero, i.size, i.bytes)) = some (some (.agg #[.int .i64 0, .int .i64 0, .int .i64 0, .int .i64 0, .int .i64 0]), 5, 40) := by kernel_rfl
theorem elP : El 65 29 5 40 := El.mk' Try.underlying65 info_ptr rfl (by omega)

theorem RdT.ptr {w : World} {A : Option Addr} {xs : List Pt} {k : Nat} (h : RdT encP 5 w A xs) (hk : k < xs.length) :
    ∃ b off p, A = some ⟨b, off, none⟩ ∧ b < w.heap.size ∧ xs[k]? = some p ∧ w.cell? ⟨b, off + k * 5, none⟩ = some (.int .i64 p.at_) ∧ w.cell? ⟨b, off + k * 5 + 1, none⟩ = some (.int .i64 p.birth) ∧
      w.cell? ⟨b, off + k * 5 + 2, none⟩ = some (.int .i64 p.size) ∧ w.cell? ⟨b, off + k * 5 + 3, none⟩ = some (.int .i64 p.sum) ∧ w.cell? ⟨b, off + k * 5 + 4, none⟩ = some (.int .i64 p.level) := by
  obtain ⟨b, off, rfl, hb, hc⟩ := h (by omega)
  have he : xs[k]? = some xs[k] := List.getElem?_eq_getElem hk
  exact ⟨b, off, xs[k], rfl, hb, he, hc k _ he 0 (by omega), hc k _ he 1 (by omega), hc k _ he 2 (by omega), hc k _ he 3 (by omega), hc k _ he 4 (by omega)⟩

/-- Element k replaced: its five cells replaced. -/
theorem cellsOf_set5 {α : Type} {enc : α → Nat → Value} (l : List α) (k : Nat) (x : α) (hk : k < l.length) :
    (((((cellsOf enc 5 l).set (k * 5) (enc x 0)).set (k * 5 + 1) (enc x 1)).set (k * 5 + 2) (enc x 2)).set (k * 5 + 3) (enc x 3)).set (k * 5 + 4) (enc x 4) = cellsOf enc 5 (l.set k x) := by
  induction l generalizing k with
  | nil => simp at hk
  | cons y r ih =>
    cases k with
    | zero => simp [cellsOf, List.range_succ]
    | succ k =>
      have := ih k (by simpa using hk)
      simp only [List.set_cons_succ, cellsOf, ← this]
      simp [List.range_succ, Nat.add_mul]

theorem madeP (n : Nat) : (madeCells (Value.agg #[.int .i64 0, .int .i64 0, .int .i64 0, .int .i64 0, .int .i64 0]).cells (n * 5)).toList = cellsOf encP 5 (List.replicate n zeroP) := by
  apply List.ext_getElem?
  intro i
  by_cases hi : i < n * 5
  · have h1 : (List.replicate n zeroP)[i / 5]? = some zeroP := by rw [List.getElem?_replicate, if_pos (by omega)]
    have h2 := cellsOf_get (enc := encP) (sz := 5) _ (i / 5) (i % 5) _ h1 (by omega)
    rw [show i / 5 * 5 + i % 5 = i by omega] at h2
    rw [h2]
    rcases (show i % 5 = 0 ∨ i % 5 = 1 ∨ i % 5 = 2 ∨ i % 5 = 3 ∨ i % 5 = 4 by omega) with e | e | e | e | e <;> simp [madeCells, Value.cells, hi, e, encP, zeroP]
  · rw [List.getElem?_eq_none (by simp [madeCells]; omega), List.getElem?_eq_none (by rw [cellsOf_length, List.length_replicate]; omega)]

theorem ownsRow_belowP {w w' : World} {base : Nat} {e : TypeId} {size : Nat} {v : Value} {n : Nat} {xs : List Value} (h : w.ownsRow base e size v n xs) (hb : Below w.heap.size w w') : w'.ownsRow base e size v n xs := by
  refine ⟨h.1, ?_⟩
  rcases h.2 with h | ⟨g, cap, cur, rfl, hg, hh, r⟩
  · exact .inl h
  · have hlt : g < w.heap.size := by
      rcases Nat.lt_or_ge g w.heap.size with h' | h'
      · exact h'
      · rw [Array.getElem?_eq_none h'] at hh; cases hh
    exact .inr ⟨g, cap, cur, rfl, hg, (hb.block g hlt).trans hh, r⟩

def PPost (w : World) (xs : List Pt) (e : Ending) (w' : World) : Prop := ∃ v, e = .returned v ∧ Own encP 5 29 w.heap.size w' v xs ∧ Below w.heap.size w w'

theorem toPt_any (p : Pt) (w : World) : Calls Try.prog 15 #[p.v] w fun e w' => e = .returned p.v ∧ Below w.heap.size w w' := by
  obtain ⟨a, b, s, u, l⟩ := p
  unfold Pt.v
  dsimp only
  go_enter Try.func15, Try.ntmps15
  go_wp2_with fail
  refine bodyPost_ret (v := .agg #[.int .i64 a, .int .i64 b, .int .i64 s, .int .i64 u, .int .i64 l]) (by simp [results, Try.results15, go_sem]) rfl ⟨rfl, by (repeat (first | assumption | exact Below.refl _ _ | refine below_alloc ?_ _ | refine Below.drew ?_ | refine below_drewN ?_ _ | refine below_set ?_ (by first | exact Nat.le_refl _ | omega | (simp; done) | (simp; omega)) _ | refine below_kp ?_ (by assumption) (by simp) | refine below_below ?_ (by assumption)))⟩

def SzQ (w : World) (left : Int) (n : Nat) (e : Ending) (w' : World) : Prop := ∃ r : Int, e = .returned (.int .i64 r) ∧ -1 ≤ r ∧ r ≤ left ∧ (0 ≤ r → r + (n : Int) = left) ∧ w = w'

/-- The marks from k on. -/
def markP (k n : Nat) : List Pt := (List.range n).map fun i => ⟨(k + 5 * i : Nat), (k + 5 * i + 1 : Nat), (k + 5 * i + 2 : Nat), (k + 5 * i + 3 : Nat), (k + 5 * i + 4 : Nat)⟩
theorem markP_length (k n : Nat) : (markP k n).length = n := by simp [markP]
theorem markP_get (k n i : Nat) (h : i < n) : (markP k n)[i]? = some ⟨(k + 5 * i : Nat), (k + 5 * i + 1 : Nat), (k + 5 * i + 2 : Nat), (k + 5 * i + 3 : Nat), (k + 5 * i + 4 : Nat)⟩ := by simp [markP, h]

/-- The block of a row of the call's own, as a list. -/
def exP (v : Value) : List Nat := match v.ownBlock with | some b => [b] | none => []

def MarkPostP (base k n : Nat) (w : World) (v : Value) (e : Ending) (w' : World) : Prop := e = .returned (.int .i64 ((k + 5 * n : Nat) : Int)) ∧ Own encP 5 29 base w' v (markP k n) ∧ Kp (exP v) w w'

theorem markP_mix (k n i : Nat) (es : List Pt) (hn : es.length = n) (hi : i < n) : ((markP k n).take i ++ es.drop i).set i ⟨(k + 5 * i : Nat), (k + 5 * i + 1 : Nat), (k + 5 * i + 2 : Nat), (k + 5 * i + 3 : Nat), (k + 5 * i + 4 : Nat)⟩ = (markP k n).take (i + 1) ++ es.drop (i + 1) := by
  apply List.ext_getElem?
  intro j
  have h1 : ((markP k n).take i).length = i := by rw [List.length_take, markP_length]; omega
  have h2 : ((markP k n).take (i + 1)).length = i + 1 := by rw [List.length_take, markP_length]; omega
  by_cases hj : j < i
  · rw [List.getElem?_set_ne (by omega), List.getElem?_append_left (by omega), List.getElem?_append_left (by omega), List.getElem?_take, List.getElem?_take, if_pos hj, if_pos (by omega)]
  · by_cases hj2 : j = i
    · subst hj2
      rw [List.getElem?_set_self (by simp [markP_length]; omega), List.getElem?_append_left (by omega), List.getElem?_take, if_pos (by omega), markP_get _ _ _ hi]
    · rw [List.getElem?_set_ne (by omega), List.getElem?_append_right (by omega), List.getElem?_append_right (by omega), h1, h2, List.getElem?_drop, List.getElem?_drop]
      congr 1
      omega

open Go.ChangeShapes Go.WideShapes Go.ChangeAt in
/-- One pointer's cells, out of its reading. -/
theorem pt_of_trod {H : Type} {enc : TypeId × Value → H} {W : World} {base : Nat} {n : Nat} {cs : List Value} {x : DataW H × List MemPlace} (hlen : cs.length = 5) (h : DataW.trod enc Try.prog W base (fun _ => true) true n 39 cs = some x) :
    ∃ p : Pt, ∀ j, j < 5 → cs[j]? = some (encP p j) := by
  have c1 : Try.prog.cellsOf 3 = 1 := by kernel_rfl
  match cs, hlen with
  | [v0, v1, v2, v3, v4], _ =>
    obtain ⟨n0, y0, t0⟩ := trod_at Try.underlying39 h 0 rfl rfl rfl c1 rfl
    obtain ⟨n1, y1, t1⟩ := trod_at Try.underlying39 h 1 rfl rfl rfl c1 rfl
    obtain ⟨n2, y2, t2⟩ := trod_at Try.underlying39 h 2 rfl rfl rfl c1 rfl
    obtain ⟨n3, y3, t3⟩ := trod_at Try.underlying39 h 3 rfl rfl rfl c1 rfl
    obtain ⟨n4, y4, t4⟩ := trod_at Try.underlying39 h 4 rfl rfl rfl c1 rfl
    obtain ⟨z0, e0, _, _⟩ := DataW.trod_int Try.underlying3 t0
    obtain ⟨z1, e1, _, _⟩ := DataW.trod_int Try.underlying3 t1
    obtain ⟨z2, e2, _, _⟩ := DataW.trod_int Try.underlying3 t2
    obtain ⟨z3, e3, _, _⟩ := DataW.trod_int Try.underlying3 t3
    obtain ⟨z4, e4, _, _⟩ := DataW.trod_int Try.underlying3 t4
    cases e0; cases e1; cases e2; cases e3; cases e4
    exact ⟨⟨z0, z1, z2, z3, z4⟩, fun j hj => by
      rcases (show j = 0 ∨ j = 1 ∨ j = 2 ∨ j = 3 ∨ j = 4 by omega) with rfl | rfl | rfl | rfl | rfl <;> rfl⟩

end Go.Proofs.Ytamljoffmkcbnaa
