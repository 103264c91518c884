/- Lists of texts: what the laws' own helpers over []string return; the argument opened. -/
import Derived.Test.YthedmiippfpbnaaGreatDoorAppend
import Derived.Test.YthedmiippfpbnaaGreatDoorQuiet
import Derived.Test.YthedmiippfpbnaaGreatDoorLawCode
import Derived.Laws.ResultCell
import Derived.SliceStrings
namespace Go.Proofs.YthedmiippfpbnaaGreatDoor
open Go.RowKit
set_option maxRecDepth 100000
set_option linter.unusedVariables false
set_option linter.unusedSimpArgs false

theorem oneS : OneC encS := fun x j => rfl
theorem info_string : (Tryz.prog.info? 9).map (fun i => (i.zero, i.size, i.bytes)) = some (some (.string ⟨#[]⟩), 1, 16) := by kernel_rfl
theorem elS : El 32 9 1 16 := El.mk' Tryz.underlying32 info_string rfl (by omega)

theorem RdT.str {w : World} {A : Option Addr} {xs : List ByteArray} {k : Nat} (h : RdT encS 1 w A xs) (hk : k < xs.length) :
    ∃ b off s, A = some ⟨b, off, none⟩ ∧ b < w.heap.size ∧ xs[k]? = some s ∧ w.cell? ⟨b, off + k, none⟩ = some (.string s) := by
  obtain ⟨b, off, rfl, hb, hc⟩ := h (by omega)
  have he : xs[k]? = some xs[k] := List.getElem?_eq_getElem hk
  refine ⟨b, off, xs[k], rfl, hb, he, ?_⟩
  have := hc k _ he 0 (by omega)
  simpa [encS] using this

def SPost (w : World) (xs : List ByteArray) (e : Ending) (w' : World) : Prop := ∃ v, e = .returned v ∧ Own encS 1 9 w.heap.size w' v xs ∧ Below w.heap.size w w'

theorem ownsRow_below' {w w' : World} {base : Nat} {e : TypeId} {size : Nat} {v : Value} {n : Nat} {xs : List Value} (h : w.ownsRow base e size v n xs) (hb : Below w.heap.size w w') : w'.ownsRow base e size v n xs := by
  refine ⟨h.1, ?_⟩
  rcases h.2 with h | ⟨g, cap, cur, rfl, hg, hh, r⟩
  · exact .inl h
  · have hlt : g < w.heap.size := by
      rcases Nat.lt_or_ge g w.heap.size with h' | h'
      · exact h'
      · rw [Array.getElem?_eq_none h'] at hh; cases hh
    exact .inr ⟨g, cap, cur, rfl, hg, (hb.block g hlt).trans hh, r⟩

theorem madeS (n : Nat) : (madeCells (Value.string ⟨#[]⟩).cells (n * 1)).toList = cellsOf encS 1 (List.replicate n ⟨#[]⟩) := by
  apply List.ext_getElem?
  intro i
  by_cases hi : i < n
  · have h1 : (List.replicate n (⟨#[]⟩ : ByteArray))[i]? = some ⟨#[]⟩ := by rw [List.getElem?_replicate, if_pos (by omega)]
    have h2 := cellsOf_get (enc := encS) (sz := 1) _ i 0 _ h1 (by omega)
    rw [show i * 1 + 0 = i by omega] at h2
    rw [h2]
    simp [madeCells, Value.cells, hi, encS, Nat.mod_one]
  · rw [List.getElem?_eq_none (by simp [madeCells]; omega), List.getElem?_eq_none (by rw [cellsOf_length, List.length_replicate]; omega)]

open Go.ChangeShapes Go.WideShapes Go.ChangeAt in
/-- A list of texts that came in, opened. -/
theorem open_strs {H : Type} {enc : TypeId × Value → H} {W : World} {r : Reach} {b0 base : Nat} {v : Value} {d : DataW H} {p : List MemPlace} (hval : Value.okWide Tryz.prog W r b0 32 v) (h : DataW.Trod enc Tryz.prog W base (fun _ => true) true 32 v d p) :
    ∃ (A : Option Addr) (cap : Nat) (xs : List ByteArray), v = .slice A xs.length cap ∧ xs.length ≤ cap ∧ cap ≤ 9223372036854775807 ∧ RdT encS 1 W A xs ∧ ∀ x ∈ xs, x.size ≤ 9223372036854775807 := by
  have hlt : ∀ x ∈ p, x.block < W.heap.size := by obtain ⟨m, hm⟩ := h; exact DataW.trod_lt m _ _ _ hm
  obtain ⟨a0, len0, cap0, rfl⟩ := okWide_slice Tryz.underlying32 hval
  obtain ⟨fuel, hf⟩ := h
  rcases open_strings Tryz.underlying32 Tryz.underlying9 (by kernel_rfl) hf with ⟨hcs, _⟩ | ⟨x, l, c, zs, hcs, _, hl, hm, hz, hx, hcell, hwz⟩
  · simp [Value.cells] at hcs
    obtain ⟨rfl, rfl, rfl⟩ := hcs
    exact ⟨none, 0, [], rfl, Nat.le_refl _, by omega, RdT.none_, fun _ hm => by cases hm⟩
  · simp [Value.cells] at hcs
    obtain ⟨rfl, rfl, rfl⟩ := hcs
    have hz' : zs.length = cap0 := by simpa using hz
    have hlen : (zs.take len0).length = len0 := by rw [List.length_take]; omega
    refine ⟨some x, cap0, zs.take len0, by rw [hlen], by omega, by unfold maxLen at hm; omega, fun hn => ?_, fun z hzm => ?_⟩
    · have h0 : 0 < zs.length := by omega
      obtain ⟨b, off, spot⟩ := x
      have hs := spot_none (hcell 0 h0)
      have hspot : spot = none := by simpa [Addr.add] using hs
      subst hspot
      have hlt' : b < W.heap.size := by
        have := World.block_lt_of_cell? W _ (hcell 0 h0)
        simpa [Addr.add] using this
      refine ⟨b, off, rfl, hlt', fun i z hi j hj => ?_⟩
      obtain rfl : j = 0 := by omega
      have hi' : i < len0 := by
        rcases Nat.lt_or_ge i len0 with h | h
        · exact h
        · rw [List.getElem?_eq_none (by omega)] at hi; cases hi
      have := hcell i (by omega)
      rw [List.getElem?_take, if_pos hi'] at hi
      have e : zs.getD i ByteArray.empty = z := by simp [List.getD, hi]
      rw [e] at this
      have ea : (⟨b, off, none⟩ : Addr).add i = ⟨b, off + i * 1 + 0, none⟩ := by
        unfold Addr.add
        split
        · next h => subst h; simp
        · simp
      rw [ea] at this
      exact this
    · have := hwz z (List.mem_of_mem_take hzm)
      unfold maxLen at this
      omega

end Go.Proofs.YthedmiippfpbnaaGreatDoor
