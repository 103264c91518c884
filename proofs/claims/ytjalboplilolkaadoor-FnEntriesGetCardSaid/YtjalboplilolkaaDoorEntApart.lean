/- Rows of entries of a call's own: apart from one another; marking one. -/
import Derived.Test.YtjalboplilolkaaDoorMarkEnt
import Derived.Test.YtjalboplilolkaaDoorEntLess2
namespace Go.Proofs.YtjalboplilolkaaDoor
open Go.RowKit
set_option linter.unusedVariables false
set_option linter.unusedSimpArgs false

theorem own_above {base : Nat} {w : World} {v : Value} {xs : List Ent} (h : Own encE 2 76 base w v xs) : ∀ k ∈ exOf v, base ≤ k ∧ k < w.heap.size := by
  rcases h.2 with ⟨rfl, _⟩ | ⟨g, cap, cur, rfl, hg, hh, _⟩
  · intro k hk; simp [exOf, Value.ownBlock] at hk
  · intro k hk
    simp [exOf, Value.ownBlock] at hk
    subst hk
    refine ⟨hg, ?_⟩
    rcases Nat.lt_or_ge k w.heap.size with h' | h'
    · exact h'
    · rw [Array.getElem?_eq_none h'] at hh; cases hh
theorem mem_exOf {v : Value} {k : Nat} (h : v.ownBlock = some k) : k ∈ exOf v := by simp [exOf, h]
/-- Two rows of which the one was made when the other stood: apart. -/
theorem apart {b1 b2 : Nat} {w1 w2 : World} {v1 v2 : Value} {xs ys : List Ent} (h1 : Own encE 2 76 b1 w1 v1 xs) (h2 : Own encE 2 76 b2 w2 v2 ys) (hlt : w1.heap.size ≤ b2) :
    (∀ k ∈ exOf v1, v2.ownBlock ≠ some k) ∧ (∀ k ∈ exOf v2, v1.ownBlock ≠ some k) := by
  refine ⟨fun k hk e => ?_, fun k hk e => ?_⟩
  · have := own_above h1 k hk
    have := own_above h2 k (mem_exOf e)
    omega
  · have := own_above h2 k hk
    have := own_above h1 k (mem_exOf e)
    omega
theorem own_rd {base : Nat} {w : World} {A : Option Addr} {n c : Nat} {xs : List Ent} (h : Own encE 2 76 base w (.slice A n c) xs) : RdT encE 2 w A xs ∧ xs.length = n ∧ n ≤ c ∧ c ≤ 9223372036854775807 := by
  obtain ⟨A', c', hv, h1, h2, _, h3⟩ := h.form
  cases hv
  exact ⟨h3, rfl, h1, h2⟩

theorem mark_any (base : Nat) (w : World) (v : Value) (k : Nat) (es : List Ent) (h : Own encE 2 76 base w v es) (hn : es.length ≤ 1048576) (hk1 : 1 ≤ k) (hk2 : k ≤ 16) :
    Calls Tryd.prog 24 #[v, .int .i64 k] w (MarkPost base k es.length w v) := by
  have h' := h
  rcases h.2 with ⟨rfl, h0⟩ | ⟨g, cap, cur, rfl, hg, hh, _⟩
  · have he : es = [] := List.length_eq_zero_iff.1 h0
    subst he
    have HX := Lib.hid (show Own encE 2 76 base w (.slice none 0 0) (markE k 0) from Own.nil)
    clear h h'
    go_enter Tryd.func24, Tryd.ntmps24
    go_wp2_with fail
    go_loopw [1, 5] (fun x y wr => x = .int .i64 k ∧ y = .int .i64 0 ∧ wr = w) (fun x y _ => 0)
    case atStart => exact ⟨rfl, rfl, rfl⟩
    case round =>
      obtain ⟨rfl, rfl, rfl⟩ := hrel
      go_wp2_with fail
      go_ret
      exact ⟨rfl, HX.out, Kp.refl _ _⟩
  · have hlt : g < w.heap.size := by
      rcases Nat.lt_or_ge g w.heap.size with h' | h'
      · exact h'
      · rw [Array.getElem?_eq_none h'] at hh; cases hh
    exact markEntryS_any base w g cap k es h' hn hk1 hk2 hlt

theorem own_spot {base : Nat} {w : World} {A : Option Addr} {n c : Nat} {xs : List Ent} (h : Own encE 2 76 base w (.slice A n c) xs) : ∀ a, A = some a → a.spot = none := by
  rcases h.2 with ⟨h', _⟩ | ⟨g, cap, cur, h', _⟩
  · intro a ha; subst ha; simp at h'
  · intro a ha; subst ha; simp at h'; rw [h'.1]

end Go.Proofs.YtjalboplilolkaaDoor
