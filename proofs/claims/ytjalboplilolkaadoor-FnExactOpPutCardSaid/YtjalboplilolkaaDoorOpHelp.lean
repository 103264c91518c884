/- The laws' own helpers over operations; the argument opened. -/
import Derived.Test.YtjalboplilolkaaDoorOpOk
import Derived.Test.YtjalboplilolkaaDoorLawCode
import Derived.Laws.ResultCell
namespace Go.Proofs.YtjalboplilolkaaDoor
open Go.RowKit
set_option maxRecDepth 100000
set_option linter.unusedVariables false
set_option linter.unusedSimpArgs false

def OpSz (w : World) (left : Int) (o : OpD) (e : Ending) (w' : World) : Prop := ∃ r : Int, e = .returned (.int .i64 r) ∧ (0 ≤ r → (o.path.size : Int) + o.dst.size + o.text.size ≤ left) ∧ Below w.heap.size w w'

theorem szOp_any (w : World) (o : OpD) (left : Int) (h0 : 0 ≤ left) (h1 : left ≤ 1048576) (hp : o.path.size ≤ 9223372036854775807) (ht : o.dst.size ≤ 9223372036854775807) (hx : o.text.size ≤ 9223372036854775807) :
    Calls Tryd.prog 34 #[o.v, .int .i64 left] w (OpSz w left o) := by
  obtain ⟨kd, pa, dst, at_, tx⟩ := o
  dsimp only at hp ht hx
  simp only [OpD.v]
  by_cases h1' : left - (pa.size : Int) < 0
  · go_enter Tryd.func34, Tryd.ntmps34
    go_wp2
    go_ret
    exact ⟨-1, rfl, by omega, by (repeat (first | assumption | exact Below.refl _ _ | refine below_alloc ?_ _ | refine Below.drew ?_ | refine below_drewN ?_ _ | refine below_set ?_ (by first | exact Nat.le_refl _ | omega | (simp; done) | (simp; omega)) _ | refine below_kp ?_ (by assumption) (by simp) | refine below_below ?_ (by assumption)))⟩
  · by_cases h2 : left - (pa.size : Int) - (dst.size : Int) < 0
    · go_enter Tryd.func34, Tryd.ntmps34
      go_wp2
      go_ret
      exact ⟨-1, rfl, by omega, by (repeat (first | assumption | exact Below.refl _ _ | refine below_alloc ?_ _ | refine Below.drew ?_ | refine below_drewN ?_ _ | refine below_set ?_ (by first | exact Nat.le_refl _ | omega | (simp; done) | (simp; omega)) _ | refine below_kp ?_ (by assumption) (by simp) | refine below_below ?_ (by assumption)))⟩
    · by_cases h3 : left - (pa.size : Int) - (dst.size : Int) - (tx.size : Int) < 0
      · go_enter Tryd.func34, Tryd.ntmps34
        go_wp2
        go_ret
        exact ⟨-1, rfl, by omega, by (repeat (first | assumption | exact Below.refl _ _ | refine below_alloc ?_ _ | refine Below.drew ?_ | refine below_drewN ?_ _ | refine below_set ?_ (by first | exact Nat.le_refl _ | omega | (simp; done) | (simp; omega)) _ | refine below_kp ?_ (by assumption) (by simp) | refine below_below ?_ (by assumption)))⟩
      · go_enter Tryd.func34, Tryd.ntmps34
        go_wp2
        go_ret
        exact ⟨left - (pa.size : Int) - (dst.size : Int) - (tx.size : Int), rfl, fun _ => by dsimp only; omega, by (repeat (first | assumption | exact Below.refl _ _ | refine below_alloc ?_ _ | refine Below.drew ?_ | refine below_drewN ?_ _ | refine below_set ?_ (by first | exact Nat.le_refl _ | omega | (simp; done) | (simp; omega)) _ | refine below_kp ?_ (by assumption) (by simp) | refine below_below ?_ (by assumption)))⟩

theorem toOp_any (w : World) (o : OpD) :
    Calls Tryd.prog 36 #[o.v] w fun e w' => e = .returned o.v ∧ Below w.heap.size w w' := by
  obtain ⟨kd, pa, dst, at_, tx⟩ := o
  simp only [OpD.v]
  go_enter Tryd.func36, Tryd.ntmps36
  go_wp2
  exact bodyPost_ret (v := .agg #[.int .i64 kd, .string pa, .string dst, .int .i64 at_, .string tx]) (by simp [results, Tryd.results36, go_sem]) rfl ⟨rfl, by repeat (first | (refine below_set ?_ (by dsimp only; first | omega | (simp; omega) | simp) _) | refine below_alloc ?_ _ | exact Below.refl _ _)⟩

section
open Go.ChangeShapes Go.WideShapes Go.ChangeAt
theorem trod_field {H : Type} {enc : TypeId × Value → H} {P : Program} {w : World} {base : Nat} {spare : Nat → Bool} {held : Bool} {fuel : Nat} {t : TypeId} {fs : Array Field} {cs : List Value} {x : DataW H × List MemPlace} (ht : P.underlying t = some (.struct fs)) (h : DataW.trod enc P w base spare held fuel t cs = some x) (i : Nat) (f : Field) (hf : fs[i]? = some f) :
    ∃ n y, DataW.trod enc P w base spare held n f.type ((cs.drop f.offset).take (P.cellsOf f.type)) = some y := by
  obtain ⟨xs, n, _, _, _, hlen, hg⟩ := DataW.trod_struct ht h
  have hi : i < xs.length := by
    rw [hlen]
    rcases Nat.lt_or_ge i fs.size with h' | h'
    · exact h'
    · rw [Array.getElem?_eq_none h'] at hf; cases hf
  exact ⟨n, xs[i], by rw [hg i f hf]; exact List.getElem?_eq_getElem hi⟩

theorem trod_at {H : Type} {enc : TypeId × Value → H} {P : Program} {w : World} {base : Nat} {spare : Nat → Bool} {held : Bool} {fuel : Nat} {t : TypeId} {fs : Array Field} {cs : List Value} {x : DataW H × List MemPlace} (ht : P.underlying t = some (.struct fs)) (h : DataW.trod enc P w base spare held fuel t cs = some x) (i : Nat) {f : Field} (hf : fs[i]? = some f) {T off c : Nat} (hT : f.type = T) (ho : f.offset = off) (hc : P.cellsOf T = c) {cs' : List Value} (hcs : (cs.drop off).take c = cs') :
    ∃ n y, DataW.trod enc P w base spare held n T cs' = some y := by
  obtain ⟨n, y, h⟩ := trod_field ht h i f hf
  rw [hT, hc, ho, hcs] at h
  exact ⟨n, y, h⟩

/-- An operation that came in. -/
theorem open_op {H : Type} {enc : TypeId × Value → H} {W : World} {r : Reach} {b0 base : Nat} {v : Value} {d : DataW H} {p : List MemPlace} (hval : Value.okWide Tryd.prog W r b0 58 v) (h : DataW.Trod enc Tryd.prog W base (fun _ => true) true 58 v d p) :
    ∃ o : OpD, v = o.v ∧ o.path.size ≤ 9223372036854775807 ∧ o.dst.size ≤ 9223372036854775807 ∧ o.text.size ≤ 9223372036854775807 := by
  have c1 : Tryd.prog.cellsOf 3 = 1 := by kernel_rfl
  have c2 : Tryd.prog.cellsOf 9 = 1 := by kernel_rfl
  have c5 : Tryd.prog.cellsOf 58 = 5 := by kernel_rfl
  obtain ⟨⟨cs⟩, rfl, hsz⟩ := okWide_struct Tryd.underlying58 hval
  obtain ⟨fuel, hf⟩ := h
  have hsz' : cs.length = 5 := by rw [← c5]; exact hsz
  match cs, hsz' with
  | [x0, x1, x2, x3, x4], _ =>
    replace hf : DataW.trod enc Tryd.prog W base (fun _ => true) true fuel 58 [x0, x1, x2, x3, x4] = some (d, p) := hf
    obtain ⟨n0, y0, t0⟩ := trod_at Tryd.underlying58 hf 0 rfl rfl rfl c1 rfl
    obtain ⟨n1, y1, t1⟩ := trod_at Tryd.underlying58 hf 1 rfl rfl rfl c2 rfl
    obtain ⟨n2, y2, t2⟩ := trod_at Tryd.underlying58 hf 2 rfl rfl rfl c2 rfl
    obtain ⟨n3, y3, t3⟩ := trod_at Tryd.underlying58 hf 3 rfl rfl rfl c1 rfl
    obtain ⟨n4, y4, t4⟩ := trod_at Tryd.underlying58 hf 4 rfl rfl rfl c2 rfl
    obtain ⟨a0, e0, _, _⟩ := DataW.trod_int Tryd.underlying3 t0
    obtain ⟨a1, e1, _, z1⟩ := DataW.trod_string Tryd.underlying9 t1
    obtain ⟨a2, e2, _, z2⟩ := DataW.trod_string Tryd.underlying9 t2
    obtain ⟨a3, e3, _, _⟩ := DataW.trod_int Tryd.underlying3 t3
    obtain ⟨a4, e4, _, z4⟩ := DataW.trod_string Tryd.underlying9 t4
    replace e0 : [x0] = [Value.int .i64 a0] := e0
    replace e1 : [x1] = [Value.string a1] := e1
    replace e2 : [x2] = [Value.string a2] := e2
    replace e3 : [x3] = [Value.int .i64 a3] := e3
    replace e4 : [x4] = [Value.string a4] := e4
    cases e0; cases e1; cases e2; cases e3; cases e4
    unfold maxLen at z1 z2 z4
    exact ⟨⟨a0, a1, a2, a3, a4⟩, rfl, by dsimp only; omega, by dsimp only; omega, by dsimp only; omega⟩
end

end Go.Proofs.YtjalboplilolkaaDoor
