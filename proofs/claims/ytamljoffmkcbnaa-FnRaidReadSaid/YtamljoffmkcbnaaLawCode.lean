/- A code that came in ([]byte), opened: its bytes as a list. -/
import Derived.Test.YtamljoffmkcbnaaLaw
import Derived.Test.YtamljoffmkcbnaaMem
namespace Go.Proofs.Ytamljoffmkcbnaa
open Go.ChangeShapes Go.WideShapes Go.ChangeAt Go.RowKit
set_option maxRecDepth 100000

theorem spot_none {w : World} {a : Addr} {v : Value} (h : w.cell? a = some v) : a.spot = none := by simpa using World.cell?_spot h

theorem open_code {H : Type} {enc : TypeId × Value → H} {W : World} {r : Reach} {b0 base : Nat} {v : Value} {d : DataW H} {p : List MemPlace} (hval : Value.okWide Try.prog W r b0 22 v) (h : DataW.Trod enc Try.prog W base (fun _ => true) true 22 v d p) :
    ∃ (A : Option Addr) (cap : Nat) (zs : List Int), v = .slice A zs.length cap ∧ zs.length ≤ cap ∧ cap ≤ 9223372036854775807 ∧ RdT (encI .u8) 1 W A zs ∧ ∀ z ∈ zs, 0 ≤ z ∧ z ≤ 255 := by
  have hlt : ∀ x ∈ p, x.block < W.heap.size := by obtain ⟨m, hm⟩ := h; exact DataW.trod_lt m _ _ _ hm
  obtain ⟨a0, len0, cap0, rfl⟩ := okWide_slice Try.underlying22 hval
  obtain ⟨fuel, hf⟩ := h
  rcases open_ints Try.underlying22 Try.underlying5 (by kernel_rfl) hf with ⟨hcs, _⟩ | ⟨x, l, c, zs, hcs, _, hl, hm, hz, hx, hcell, hwz⟩
  · simp [Value.cells] at hcs
    obtain ⟨rfl, rfl, rfl⟩ := hcs
    exact ⟨none, 0, [], rfl, Nat.le_refl _, by omega, RdT.none_, fun _ hm => by cases hm⟩
  · simp [Value.cells] at hcs
    obtain ⟨rfl, rfl, rfl⟩ := hcs
    have hz' : zs.length = cap0 := by simpa using hz
    have hlen : (zs.take len0).length = len0 := by rw [List.length_take]; omega
    refine ⟨some x, cap0, zs.take len0, by rw [hlen], by omega, by unfold maxLen at hm; omega, fun hn => ?_, fun z hzm => ?_⟩
    · have h0 : 0 < zs.length := by omega
      obtain ⟨b, off, spot⟩ := x
      have hs := spot_none (hcell 0 h0)
      have hspot : spot = none := by simpa [Addr.add] using hs
      subst hspot
      have hlt' : b < W.heap.size := by
        have := World.block_lt_of_cell? W _ (hcell 0 h0)
        simpa [Addr.add] using this
      refine ⟨b, off, rfl, hlt', fun i z hi j hj => ?_⟩
      obtain rfl : j = 0 := by omega
      have hi' : i < len0 := by
        rcases Nat.lt_or_ge i len0 with h | h
        · exact h
        · rw [List.getElem?_eq_none (by omega)] at hi; cases hi
      have := hcell i (by omega)
      rw [List.getElem?_take, if_pos hi'] at hi
      have e : zs.getD i 0 = z := by simp [List.getD, hi]
      rw [e] at this
      have ea : (⟨b, off, none⟩ : Addr).add i = ⟨b, off + i * 1 + 0, none⟩ := by
        unfold Addr.add
        split
        · next h => subst h; simp
        · simp
      rw [ea] at this
      exact this
    · have := hwz z (List.mem_of_mem_take hzm)
      simpa [Lit.wf, IntKind.min, IntKind.max, IntKind.signed, IntKind.bits] using this

end Go.Proofs.Ytamljoffmkcbnaa
