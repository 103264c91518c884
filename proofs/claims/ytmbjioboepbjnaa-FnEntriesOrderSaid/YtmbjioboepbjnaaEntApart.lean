/- Rows of entries of a call's own: apart from one another; marking one. -/
import Derived.Test.YtmbjioboepbjnaaMarkEnt
import Derived.Test.YtmbjioboepbjnaaEntLess2
namespace Go.Proofs.Ytmbjioboepbjnaa
open Go.RowKit
set_option linter.unusedVariables false
set_option linter.unusedSimpArgs false

theorem own_above {base : Nat} {w : World} {v : Value} {xs : List Ent} (h : Own encE 2 32 base w v xs) : ∀ k ∈ exOf v, base ≤ k ∧ k < w.heap.size := by
  rcases h.2 with ⟨rfl, _⟩ | ⟨g, cap, cur, rfl, hg, hh, _⟩
  · intro k hk; simp [exOf, Value.ownBlock] at hk
  · intro k hk
    simp [exOf, Value.ownBlock] at hk
    subst hk
    refine ⟨hg, ?_⟩
    rcases Nat.lt_or_ge k w.heap.size with h' | h'
    · exact h'
    · rw [Array.getElem?_eq_none h'] at hh; cases hh
theorem mem_exOf {v : Value} {k : Nat} (h : v.ownBlock = some k) : k ∈ exOf v := by simp [exOf, h]
/-- Two rows of which the one was made when the other stood: apart. -/
theorem apart {b1 b2 : Nat} {w1 w2 : World} {v1 v2 : Value} {xs ys : List Ent} (h1 : Own encE 2 32 b1 w1 v1 xs) (h2 : Own encE 2 32 b2 w2 v2 ys) (hlt : w1.heap.size ≤ b2) :
    (∀ k ∈ exOf v1, v2.ownBlock ≠ some k) ∧ (∀ k ∈ exOf v2, v1.ownBlock ≠ some k) := by
  refine ⟨fun k hk e => ?_, fun k hk e => ?_⟩
  · have := own_above h1 k hk
    have := own_above h2 k (mem_exOf e)
    omega
  · have := own_above h2 k hk
    have := own_above h1 k (mem_exOf e)
    omega
theorem own_rd {base : Nat} {w : World} {A : Option Addr} {n c : Nat} {xs : List Ent} (h : Own encE 2 32 base w (.slice A n c) xs) : RdT encE 2 w A xs ∧ xs.length = n ∧ n ≤ c ∧ c ≤ 9223372036854775807 := by
  obtain ⟨A', c', hv, h1, h2, _, h3⟩ := h.form
  cases hv
  exact ⟨h3, rfl, h1, h2⟩

theorem own_spot {base : Nat} {w : World} {A : Option Addr} {n c : Nat} {xs : List Ent} (h : Own encE 2 32 base w (.slice A n c) xs) : ∀ a, A = some a → a.spot = none := by
  rcases h.2 with ⟨h', _⟩ | ⟨g, cap, cur, h', _⟩
  · intro a ha; subst ha; simp at h'
  · intro a ha; subst ha; simp at h'; rw [h'.1]

end Go.Proofs.Ytmbjioboepbjnaa
