/- The map whose keys are pairs of numbers, and which says of each pair whether it is in it. -/
import Derived.Test.YtomofiklodojeaaMem
import Derived.WideKeyPair
import Derived.Maps.Keyed
namespace Go.Proofs.Ytomofiklodojeaa
open Go.RowKit
set_option maxRecDepth 100000
set_option linter.unusedVariables false

theorem pairKey : WideMaps.ArrKey Try.prog 89 3 2 := ⟨Try.underlying89, by kernel_rfl, by kernel_rfl, by kernel_rfl⟩
theorem pairLaw : Maps.Keyed Try.prog 89 := Maps.Keyed.of_law pairKey.law
theorem wf64 {a : Int} (h0 : -9223372036854775808 ≤ a) (h1 : a ≤ 9223372036854775807) : (Lit.int .i64 a).wf = true := WalkArith.wf_i64 ⟨h0, h1⟩
def pk (a b : Int) : Value := .agg #[.int .i64 a, .int .i64 b]
theorem pk_key {a b : Int} (a0 : -9223372036854775808 ≤ a) (a1 : a ≤ 9223372036854775807) (b0 : -9223372036854775808 ≤ b) (b1 : b ≤ 9223372036854775807) : ∃ l, keyOf Try.prog 89 (pk a b) = some l :=
  ⟨_, WideMaps.keyOf_pair pairKey Try.underlying3 ⟨Try.prog.types.size - 1, by kernel_rfl⟩ (wf64 a0 a1) (wf64 b0 b1)⟩
theorem pk_inj {a b c d : Int} (h : pk a b = pk c d) : a = c ∧ b = d := by
  simpa [pk] using h

/-- The map in block mb holds just the pairs of S. -/
def MapAt (w : World) (mb : Nat) (S : Int → Int → Prop) : Prop := ∃ es clock, w.heap[mb]? = some (.map es clock) ∧
  (∀ e ∈ es.toList, ∃ x y : Int, e.key = pk x y ∧ (∃ l, keyOf Try.prog 89 e.key = some l) ∧ e.val = .bool true ∧ S x y) ∧ ∀ x y, S x y → ∃ e ∈ es.toList, e.key = pk x y
theorem MapAt.lt {w : World} {mb : Nat} {S : Int → Int → Prop} (h : MapAt w mb S) : mb < w.heap.size := by
  obtain ⟨es, clock, h, _⟩ := h
  rcases Nat.lt_or_ge mb w.heap.size with h' | h'
  · exact h'
  · rw [Array.getElem?_eq_none h'] at h; cases h
theorem MapAt.keep {w w' : World} {mb : Nat} {S : Int → Int → Prop} (h : MapAt w mb S) (hb : w'.heap[mb]? = w.heap[mb]?) : MapAt w' mb S := by
  obtain ⟨es, clock, h, r⟩ := h
  exact ⟨es, clock, hb.trans h, r⟩
theorem MapAt.below {w w' : World} {mb : Nat} {S : Int → Int → Prop} (h : MapAt w mb S) (hB : Below w.heap.size w w') : MapAt w' mb S := h.keep (hB.block mb h.lt)
theorem MapAt.kp {w w' : World} {mb : Nat} {S : Int → Int → Prop} {ex : List Nat} (h : MapAt w mb S) (hB : Kp ex w w') (he : mb ∉ ex) : MapAt w' mb S := h.keep (hB.block mb h.lt he)
theorem MapAt.iff {w : World} {mb : Nat} {S T : Int → Int → Prop} (h : MapAt w mb S) (hST : ∀ x y, S x y ↔ T x y) : MapAt w mb T := by
  obtain ⟨es, clock, h, h1, h2⟩ := h
  exact ⟨es, clock, h, fun e he => by obtain ⟨x, y, a, b, c, d⟩ := h1 e he; exact ⟨x, y, a, b, c, (hST x y).1 d⟩, fun x y hT => h2 x y ((hST x y).2 hT)⟩
theorem map_new (w : World) : MapAt (w.alloc (.map #[] 0)) w.heap.size (fun _ _ => False) := ⟨#[], 0, heap_alloc_new w _, by simp, fun _ _ h => h.elim⟩

section
variable {w : World} {mb : Nat} {S : Int → Int → Prop} {a b : Int}
theorem map_find (h : MapAt w mb S) (a0 : -9223372036854775808 ≤ a) (a1 : a ≤ 9223372036854775807) (b0 : -9223372036854775808 ≤ b) (b1 : b ≤ 9223372036854775807) :
    ∃ es clock kl, w.heap[mb]? = some (.map es clock) ∧ keyOf Try.prog 89 (pk a b) = some kl ∧
      (((Instr.findKey 89 (pk a b) es.toList).run Try.prog w = .ok none w ∧ ¬ S a b) ∨ ∃ j, (Instr.findKey 89 (pk a b) es.toList).run Try.prog w = .ok (some (j, .bool true)) w ∧ S a b) := by
  obtain ⟨es, clock, hb, h1, h2⟩ := h
  obtain ⟨kl, hkl⟩ := pk_key a0 a1 b0 b1
  refine ⟨es, clock, kl, hb, hkl, ?_⟩
  rcases pairLaw.find w hkl es.toList (fun e he => by obtain ⟨x, y, _, hk, _⟩ := h1 e he; exact hk) with ⟨f1, f2⟩ | ⟨j, e, f1, f2, f3⟩
  · refine .inl ⟨f1, fun hS => ?_⟩
    obtain ⟨e, he, hk⟩ := h2 a b hS
    exact f2 e he hk
  · obtain ⟨x, y, hk, _, hv, hs⟩ := h1 e (List.mem_of_getElem? f2)
    obtain ⟨rfl, rfl⟩ := pk_inj (hk.symm.trans f3)
    rw [hv] at f1
    exact .inr ⟨j, f1, hs⟩
theorem map_yes (h : MapAt w mb S) (a0 : -9223372036854775808 ≤ a) (a1 : a ≤ 9223372036854775807) (b0 : -9223372036854775808 ≤ b) (b1 : b ≤ 9223372036854775807) (hS : S a b) :
    (Instr.lookup 88 (.map (some mb)) (.agg #[.int .i64 a, .int .i64 b]) false).run Try.prog w = .ok (.bool true) w := by
  obtain ⟨es, clock, kl, hb, hkl, ⟨_, hn⟩ | ⟨j, hf, _⟩⟩ := map_find h a0 a1 b0 b1
  · exact absurd hS hn
  · change (Instr.lookup 88 (.map (some mb)) (pk a b) false).run Try.prog w = .ok (.bool true) w
    simp [Instr.lookup, run_underlying Try.underlying88, MapKept.run_getObj_map hb, pairLaw.check w _ hkl, hf, Result.andThen]
theorem map_no (h : MapAt w mb S) (a0 : -9223372036854775808 ≤ a) (a1 : a ≤ 9223372036854775807) (b0 : -9223372036854775808 ≤ b) (b1 : b ≤ 9223372036854775807) (hS : ¬ S a b) :
    (Instr.lookup 88 (.map (some mb)) (.agg #[.int .i64 a, .int .i64 b]) false).run Try.prog w = .ok (.bool false) w := by
  have hz : (zeroValue 4).run Try.prog w = .ok (.bool false) w := by kernel_rfl
  obtain ⟨es, clock, kl, hb, hkl, ⟨hf, _⟩ | ⟨j, _, hy⟩⟩ := map_find h a0 a1 b0 b1
  · change (Instr.lookup 88 (.map (some mb)) (pk a b) false).run Try.prog w = .ok (.bool false) w
    simp [Instr.lookup, run_underlying Try.underlying88, MapKept.run_getObj_map hb, pairLaw.check w _ hkl, hf, hz, Result.andThen]
  · exact absurd hy hS
theorem map_put (h : MapAt w mb S) (a0 : -9223372036854775808 ≤ a) (a1 : a ≤ 9223372036854775807) (b0 : -9223372036854775808 ≤ b) (b1 : b ≤ 9223372036854775807) (hS : ¬ S a b) :
    ∃ w', (Instr.mapUpdate 88 (.map (some mb)) (.agg #[.int .i64 a, .int .i64 b]) (.bool true)).run Try.prog w = .ok () w' ∧ MapAt w' mb (fun x y => S x y ∨ (x = a ∧ y = b)) ∧ Kp [mb] w w' ∧ w'.heap.size = w.heap.size := by
  obtain ⟨es0, clock0, hb0, h1, h2⟩ := h
  obtain ⟨es, clock, kl, hb, hkl, ⟨hf, _⟩ | ⟨j, _, hy⟩⟩ := map_find ⟨es0, clock0, hb0, h1, h2⟩ a0 a1 b0 b1
  · rw [hb0] at hb
    cases hb
    refine ⟨ChangeMaps.setBlock w mb (.map (es0.push ⟨pk a b, .bool true, clock0⟩) (clock0 + 1)), ?_, ⟨_, _, ChangeMaps.heap_setBlock_same hb0 _, ?_, ?_⟩, ⟨rfl, rfl, rfl, by simp [ChangeMaps.setBlock], fun k hk he => ChangeMaps.heap_setBlock_other hb0 _ (by simpa using he)⟩, by simp [ChangeMaps.setBlock]⟩
    · change (Instr.mapUpdate 88 (.map (some mb)) (pk a b) (.bool true)).run Try.prog w = _
      simp [Instr.mapUpdate, run_underlying Try.underlying88, MapKept.run_getObj_map hb0, pairLaw.check w false hkl, hf, MapKept.run_setObj_map _ hb0, Result.andThen, ChangeMaps.setBlock]
    · intro e he
      simp only [Array.toList_push, List.mem_append, List.mem_singleton] at he
      rcases he with he | rfl
      · obtain ⟨x, y, p1, p2, p3, p4⟩ := h1 e he
        exact ⟨x, y, p1, p2, p3, .inl p4⟩
      · exact ⟨a, b, rfl, ⟨kl, hkl⟩, rfl, .inr ⟨rfl, rfl⟩⟩
    · rintro x y (hs | ⟨rfl, rfl⟩)
      · obtain ⟨e, he, hk⟩ := h2 x y hs
        exact ⟨e, by simp [he], hk⟩
      · exact ⟨⟨pk x y, .bool true, clock0⟩, by simp, rfl⟩
  · exact absurd hy hS
end

end Go.Proofs.Ytomofiklodojeaa
