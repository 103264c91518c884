/- Lists of numbers: what the laws' own helpers over []int return; the argument opened. -/
import Derived.Test.YthedmiippfpbnaaGreatDoorAppend
import Derived.Test.YthedmiippfpbnaaGreatDoorQuiet
import Derived.Test.YthedmiippfpbnaaGreatDoorLaw
import Derived.ChangeSlices
import Derived.Laws.ResultCell
namespace Go.Proofs.YthedmiippfpbnaaGreatDoor
open Go.RowKit
set_option maxRecDepth 100000
set_option linter.unusedVariables false
set_option linter.unusedSimpArgs false

theorem spot_noneN {w : World} {a : Addr} {v : Value} (h : w.cell? a = some v) : a.spot = none := by simpa using World.cell?_spot h

def encN (z : Int) (_ : Nat) : Value := .int .i64 z
theorem oneN : OneC encN := fun x j => rfl
theorem info_int : (Tryz.prog.info? 3).map (fun i => (i.zero, i.size, i.bytes)) = some (some (.int .i64 0), 1, 8) := by kernel_rfl
theorem elN : El 51 3 1 8 := El.mk' Tryz.underlying51 info_int rfl (by omega)

theorem RdT.num {w : World} {A : Option Addr} {xs : List Int} {k : Nat} (h : RdT encN 1 w A xs) (hk : k < xs.length) :
    ∃ b off s, A = some ⟨b, off, none⟩ ∧ b < w.heap.size ∧ xs[k]? = some s ∧ w.cell? ⟨b, off + k, none⟩ = some (.int .i64 s) := by
  obtain ⟨b, off, rfl, hb, hc⟩ := h (by omega)
  have he : xs[k]? = some xs[k] := List.getElem?_eq_getElem hk
  refine ⟨b, off, xs[k], rfl, hb, he, ?_⟩
  have := hc k _ he 0 (by omega)
  simpa [encN] using this

def NPost (w : World) (xs : List Int) (e : Ending) (w' : World) : Prop := ∃ v, e = .returned v ∧ Own encN 1 3 w.heap.size w' v xs ∧ Below w.heap.size w w'

theorem ownsRow_belowN {w w' : World} {base : Nat} {e : TypeId} {size : Nat} {v : Value} {n : Nat} {xs : List Value} (h : w.ownsRow base e size v n xs) (hb : Below w.heap.size w w') : w'.ownsRow base e size v n xs := by
  refine ⟨h.1, ?_⟩
  rcases h.2 with h | ⟨g, cap, cur, rfl, hg, hh, r⟩
  · exact .inl h
  · have hlt : g < w.heap.size := by
      rcases Nat.lt_or_ge g w.heap.size with h' | h'
      · exact h'
      · rw [Array.getElem?_eq_none h'] at hh; cases hh
    exact .inr ⟨g, cap, cur, rfl, hg, (hb.block g hlt).trans hh, r⟩

theorem madeN (n : Nat) : (madeCells (Value.int .i64 0).cells (n * 1)).toList = cellsOf encN 1 (List.replicate n 0) := by
  apply List.ext_getElem?
  intro i
  by_cases hi : i < n
  · have h1 : (List.replicate n (0 : Int))[i]? = some 0 := by rw [List.getElem?_replicate, if_pos (by omega)]
    have h2 := cellsOf_get (enc := encN) (sz := 1) _ i 0 _ h1 (by omega)
    rw [show i * 1 + 0 = i by omega] at h2
    rw [h2]
    simp [madeCells, Value.cells, hi, encN, Nat.mod_one]
  · rw [List.getElem?_eq_none (by simp [madeCells]; omega), List.getElem?_eq_none (by rw [cellsOf_length, List.length_replicate]; omega)]

open Go.ChangeShapes Go.WideShapes Go.ChangeAt in
/-- A list of numbers that came in, opened, out of its reading. -/
theorem open_nums {H : Type} {enc : TypeId × Value → H} {W : World} {base fuel : Nat} {v : Value} {x : DataW H × List MemPlace} (h : DataW.trod enc Tryz.prog W base (fun _ => true) true fuel 51 [v] = some x) :
    ∃ (A : Option Addr) (cap : Nat) (xs : List Int), v = .slice A xs.length cap ∧ xs.length ≤ cap ∧ cap ≤ 9223372036854775807 ∧ RdT encN 1 W A xs := by
  rcases open_ints Tryz.underlying51 Tryz.underlying3 (by kernel_rfl) h with ⟨hcs, _⟩ | ⟨x, l, c, zs, hcs, _, hl, hm, hz, hx, hcell, hwz⟩
  · simp at hcs
    subst hcs
    exact ⟨none, 0, [], rfl, Nat.le_refl _, by omega, RdT.none_⟩
  · simp at hcs
    subst hcs
    have hz' : zs.length = c := by simpa using hz
    have hlen : (zs.take l).length = l := by rw [List.length_take]; omega
    refine ⟨some x, c, zs.take l, by rw [hlen], by omega, by unfold maxLen at hm; omega, fun hn => ?_⟩
    have h0 : 0 < zs.length := by omega
    obtain ⟨b, off, spot⟩ := x
    have hs := spot_noneN (hcell 0 h0)
    have hspot : spot = none := by simpa [Addr.add] using hs
    subst hspot
    have hlt' : b < W.heap.size := by
      have := World.block_lt_of_cell? W _ (hcell 0 h0)
      simpa [Addr.add] using this
    refine ⟨b, off, rfl, hlt', fun i z hi j hj => ?_⟩
    obtain rfl : j = 0 := by omega
    have hi' : i < l := by
      rcases Nat.lt_or_ge i l with h | h
      · exact h
      · rw [List.getElem?_eq_none (by omega)] at hi; cases hi
    have := hcell i (by omega)
    rw [List.getElem?_take, if_pos hi'] at hi
    have e : zs.getD i 0 = z := by simp [List.getD, hi]
    rw [e] at this
    have ea : (⟨b, off, none⟩ : Addr).add i = ⟨b, off + i * 1 + 0, none⟩ := by
      unfold Addr.add
      split
      · next h => subst h; simp
      · simp
    rw [ea] at this
    exact this

end Go.Proofs.YthedmiippfpbnaaGreatDoor
