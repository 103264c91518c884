/- Disks that came in: opened. -/
import Derived.Test.YtamljoffmkcbnaaDisk
import Derived.Test.YtamljoffmkcbnaaTrod
import Derived.Test.YtamljoffmkcbnaaPtrS
namespace Go.Proofs.Ytamljoffmkcbnaa
open Go.RowKit
set_option maxRecDepth 100000
set_option linter.unusedVariables false
set_option linter.unusedSimpArgs false

instance : Inhabited Wt := ⟨⟨0, ⟨#[]⟩⟩⟩
instance : Inhabited DA := ⟨⟨none, 0, 0, none, 0, 0, false⟩⟩

section
open Go.ChangeShapes Go.WideShapes Go.ChangeAt
/-- A slice that came in, its elements opened by a lemma. -/
theorem open_rowG {α : Type} [Inhabited α] {enc : α → Nat → Value} {sz : Nat} {Ts T : TypeId} {H : Type} {enc' : TypeId × Value → H} {W : World} {base fuel : Nat} {v : Value} {x : DataW H × List MemPlace}
    (und : Try.prog.underlying Ts = some (.slice T)) (hc : Try.prog.cellsOf T = sz) (hp : 0 < sz) (ok : α → Prop)
    (one : ∀ n cs y, cs.length = sz → DataW.trod enc' Try.prog W base (fun _ => true) true n T cs = some y → ∃ p : α, ok p ∧ ∀ j, j < sz → cs[j]? = some (enc p j))
    (h : DataW.trod enc' Try.prog W base (fun _ => true) true fuel Ts [v] = some x) :
    ∃ (A : Option Addr) (cap : Nat) (xs : List α), v = .slice A xs.length cap ∧ xs.length ≤ cap ∧ cap ≤ 9223372036854775807 ∧ RdT enc sz W A xs ∧ ∀ p ∈ xs, ok p := by
  rcases Deep.open_slice und h with ⟨hcs, _⟩ | ⟨a, len, cap, m, n, D, Pl, hcs, _, hl, hm, hmm, _, hx⟩
  · cases hcs
    exact ⟨none, 0, [], rfl, Nat.le_refl _, by omega, RdT.none_, fun _ hm => by cases hm⟩
  · cases hcs
    have hm' : m = cap := by simpa using hmm
    subst hm'
    rw [hc] at hx
    have each : ∀ i, i < len → ∃ p : α, ok p ∧ ∀ j, j < sz → W.cell? (a.add (i * sz + j)) = some (enc p j) := fun i hi => by
      obtain ⟨cs', h1, h2⟩ := hx i (by omega)
      obtain ⟨_, hlen, hcell⟩ := World.cells?_some h1
      obtain ⟨p, hok, hpj⟩ := one _ _ _ hlen h2
      refine ⟨p, hok, fun j hj => ?_⟩
      rw [← Deep.add_add, hcell j hj]
      exact hpj j hj
    obtain ⟨q, hq⟩ := Deep.choose_lt each
    have hlen : ((List.range len).map q).length = len := by simp
    refine ⟨some a, m, (List.range len).map q, by rw [hlen], by omega, by unfold maxLen at hm; omega, fun hn => ?_, fun p hpm => ?_⟩
    · rw [hlen] at hn
      obtain ⟨b, off, spot⟩ := a
      have h00 := (hq 0 hn).2 0 hp
      have hspot : spot = none := by
        have := World.cell?_spot h00
        simpa [Addr.add] using this
      subst hspot
      have hlt' : b < W.heap.size := by
        have := World.block_lt_of_cell? W _ h00
        simpa [Addr.add] using this
      refine ⟨b, off, rfl, hlt', fun i x hx j hj => ?_⟩
      have hi : i < len := by
        rcases Nat.lt_or_ge i len with h | h
        · exact h
        · rw [List.getElem?_eq_none (by simp; omega)] at hx; cases hx
      rw [List.getElem?_map, List.getElem?_range hi] at hx
      simp only [Option.map_some, Option.some.injEq] at hx
      subst hx
      have := (hq i hi).2 j hj
      rw [addr_add] at this
      rw [Nat.add_assoc]
      exact this
    · obtain ⟨i, hi, rfl⟩ := List.mem_map.1 hpm
      exact (hq i (List.mem_range.1 hi)).1

theorem str_of_trod {H : Type} {enc : TypeId × Value → H} {W : World} {base n : Nat} {cs : List Value} {x : DataW H × List MemPlace} (hlen : cs.length = 1) (h : DataW.trod enc Try.prog W base (fun _ => true) true n 9 cs = some x) :
    ∃ s : ByteArray, s.size ≤ 9223372036854775807 ∧ ∀ j, j < 1 → cs[j]? = some (encS s j) := by
  match cs, hlen with
  | [v0], _ =>
    obtain ⟨s, e, _, hs⟩ := DataW.trod_string Try.underlying9 h
    cases e
    unfold maxLen at hs
    exact ⟨s, by omega, fun j hj => by obtain rfl : j = 0 := by omega
                                       rfl⟩
theorem wt_of_trod {H : Type} {enc : TypeId × Value → H} {W : World} {base n : Nat} {cs : List Value} {x : DataW H × List MemPlace} (hlen : cs.length = 2) (h : DataW.trod enc Try.prog W base (fun _ => true) true n 119 cs = some x) :
    ∃ p : Wt, p.text.size ≤ 9223372036854775807 ∧ ∀ j, j < 2 → cs[j]? = some (encW p j) := by
  have c1 : Try.prog.cellsOf 3 = 1 := by kernel_rfl
  have c2 : Try.prog.cellsOf 9 = 1 := by kernel_rfl
  match cs, hlen with
  | [v0, v1], _ =>
    obtain ⟨n0, y0, t0⟩ := trod_at Try.underlying119 h 0 rfl rfl rfl c1 rfl
    obtain ⟨n1, y1, t1⟩ := trod_at Try.underlying119 h 1 rfl rfl rfl c2 rfl
    obtain ⟨z0, e0, _, _⟩ := DataW.trod_int Try.underlying3 t0
    obtain ⟨z1, e1, _, hz⟩ := DataW.trod_string Try.underlying9 t1
    replace e0 : [v0] = [Value.int .i64 z0] := e0
    replace e1 : [v1] = [Value.string z1] := e1
    cases e0; cases e1
    unfold maxLen at hz
    exact ⟨⟨z0, z1⟩, by dsimp only; omega, fun j hj => by
      rcases (show j = 0 ∨ j = 1 by omega) with rfl | rfl <;> rfl⟩
theorem da_of_trod {H : Type} {enc : TypeId × Value → H} {W : World} {base n : Nat} {cs : List Value} {x : DataW H × List MemPlace} (hlen : cs.length = 3) (h : DataW.trod enc Try.prog W base (fun _ => true) true n 86 cs = some x) :
    ∃ p : DA, (∃ d, DRd W p d) ∧ ∀ j, j < 3 → cs[j]? = some (encD p j) := by
  have c1 : Try.prog.cellsOf 48 = 1 := by kernel_rfl
  have c2 : Try.prog.cellsOf 84 = 1 := by kernel_rfl
  have c3 : Try.prog.cellsOf 4 = 1 := by kernel_rfl
  have c4 : Try.prog.cellsOf 9 = 1 := by kernel_rfl
  have c5 : Try.prog.cellsOf 119 = 2 := by kernel_rfl
  match cs, hlen with
  | [v0, v1, v2], _ =>
    obtain ⟨n0, y0, t0⟩ := trod_at Try.underlying86 h 0 rfl rfl rfl c1 rfl
    obtain ⟨n1, y1, t1⟩ := trod_at Try.underlying86 h 1 rfl rfl rfl c2 rfl
    obtain ⟨n2, y2, t2⟩ := trod_at Try.underlying86 h 2 rfl rfl rfl c3 rfl
    obtain ⟨C, cC, cells, rfl, hC, mC, rC, zC⟩ := open_rowG (enc := encS) Try.underlying48 c4 (by omega) (fun s => s.size ≤ 9223372036854775807) (fun _ _ _ a b => str_of_trod a b) t0
    obtain ⟨Wa, cW, waits, rfl, hW, mW, rW, zW⟩ := open_rowG (enc := encW) Try.underlying84 c5 (by omega) (fun p => p.text.size ≤ 9223372036854775807) (fun _ _ _ a b => wt_of_trod a b) t1
    obtain ⟨g, e2, _⟩ := DataW.trod_bool Try.underlying4 t2
    replace e2 : [v2] = [Value.bool g] := e2
    cases e2
    exact ⟨⟨C, cells.length, cC, Wa, waits.length, cW, g⟩, ⟨⟨cells, waits, g⟩, rC, rW, rfl, rfl, hC, hW, mC, mW, rfl, zC, zW⟩, fun j hj => by
      rcases (show j = 0 ∨ j = 1 ∨ j = 2 by omega) with rfl | rfl | rfl <;> rfl⟩

theorem pick_ds {W : World} : ∀ (xs : List DA), (∀ x ∈ xs, ∃ d, DRd W x d) → ∃ ds : List Dk, ds.length = xs.length ∧ ∀ (i : Nat) (x : DA), xs[i]? = some x → ∃ d, ds[i]? = some d ∧ DRd W x d
  | [], _ => ⟨[], rfl, fun i x h => by simp at h⟩
  | x :: r, h => by
    obtain ⟨d, hd⟩ := h x (by simp)
    obtain ⟨ds, h1, h2⟩ := pick_ds r (fun y hy => h y (by simp [hy]))
    refine ⟨d :: ds, by simp [h1], fun i y hy => ?_⟩
    cases i with
    | zero => simp at hy; subst hy; exact ⟨d, rfl, hd⟩
    | succ i => exact h2 i y (by simpa using hy)

/-- Disks that came in. -/
theorem open_raid {H : Type} {enc : TypeId × Value → H} {W : World} {r : Reach} {b0 base : Nat} {v : Value} {dd : DataW H} {p : List MemPlace} (hval : Value.okWide Try.prog W r b0 38 v) (h : DataW.Trod enc Try.prog W base (fun _ => true) true 38 v dd p) :
    ∃ A c xs ds, v = .agg #[.slice A (List.length xs) c] ∧ RRd W A c xs ds := by
  have c1 : Try.prog.cellsOf 36 = 1 := by kernel_rfl
  have c2 : Try.prog.cellsOf 38 = 1 := by kernel_rfl
  have c3 : Try.prog.cellsOf 86 = 3 := by kernel_rfl
  obtain ⟨⟨cs⟩, rfl, hsz⟩ := okWide_struct Try.underlying38 hval
  obtain ⟨fuel, hf⟩ := h
  have hsz' : cs.length = 1 := by rw [← c2]; exact hsz
  match cs, hsz' with
  | [x0], _ =>
    replace hf : DataW.trod enc Try.prog W base (fun _ => true) true fuel 38 [x0] = some (dd, p) := hf
    obtain ⟨n0, y0, t0⟩ := trod_at Try.underlying38 hf 0 rfl rfl rfl c1 rfl
    obtain ⟨A, c, xs, rfl, hc, hm, hr, hx⟩ := open_rowG (enc := encD) Try.underlying36 c3 (by omega) (fun x => ∃ d, DRd W x d) (fun _ _ _ a b => da_of_trod a b) t0
    obtain ⟨ds, h1, h2⟩ := pick_ds xs hx
    exact ⟨A, c, xs, ds, rfl, hr, h1, hc, hm, h2⟩
end

section
open Go.ChangeShapes Go.WideShapes Go.ChangeAt
/-- A pointer that came in. -/
theorem open_ptrR {H : Type} {enc : TypeId × Value → H} {W : World} {r : Reach} {b0 base : Nat} {v : Value} {dd : DataW H} {p : List MemPlace} (hval : Value.okWide Try.prog W r b0 39 v) (h : DataW.Trod enc Try.prog W base (fun _ => true) true 39 v dd p) :
    ∃ q : Pt, v = q.v := by
  have c5 : Try.prog.cellsOf 39 = 5 := by kernel_rfl
  obtain ⟨⟨cs⟩, rfl, hsz⟩ := okWide_struct Try.underlying39 hval
  obtain ⟨fuel, hf⟩ := h
  have hsz' : cs.length = 5 := by rw [← c5]; exact hsz
  obtain ⟨q, hq⟩ := pt_of_trod hsz' (show DataW.trod enc Try.prog W base (fun _ => true) true fuel 39 cs = some (dd, p) from hf)
  match cs, hsz' with
  | [x0, x1, x2, x3, x4], _ =>
    have e0 := hq 0 (by omega)
    have e1 := hq 1 (by omega)
    have e2 := hq 2 (by omega)
    have e3 := hq 3 (by omega)
    have e4 := hq 4 (by omega)
    cases e0; cases e1; cases e2; cases e3; cases e4
    exact ⟨q, rfl⟩
end

end Go.Proofs.Ytamljoffmkcbnaa
