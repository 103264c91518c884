/- The two rows of a space, held together; what counting returns, by both texts, as the drawn laws use it. -/
import Derived.Test.YtomofiklodojeaaSpaceOfS
import Derived.Test.YtomofiklodojeaaSpLaw
import Derived.Test.YtomofiklodojeaaPfSpace
namespace Go.Proofs.Ytomofiklodojeaa
open Go.RowKit
set_option maxRecDepth 100000
set_option linter.unusedVariables false
set_option linter.unusedSimpArgs false

/-- The two rows of a space. -/
structure TwoS (base : Nat) (w : World) (v u : Value) (rs ls : List Int) : Prop where
  a : Own encN 1 3 base w v rs
  b : Own encN 1 3 base w u ls
theorem TwoS.below {base : Nat} {w w' : World} {v u : Value} {rs ls : List Int} (h : TwoS base w v u rs ls) (hB : Below w.heap.size w w') : TwoS base w' v u rs ls := ⟨h.a.below hB, h.b.below hB⟩
theorem TwoS.rd {base : Nat} {w : World} {A B : Option Addr} {c d : Nat} {rs ls : List Int} (h : TwoS base w (.slice A rs.length c) (.slice B ls.length d) rs ls) : RdT encN 1 w A rs ∧ RdT encN 1 w B ls := by
  obtain ⟨A', c', e, _, _, _, r⟩ := h.a.form
  obtain ⟨B', d', e', _, _, _, r'⟩ := h.b.form
  cases e; cases e'
  exact ⟨r, r'⟩

/-- What counting a list returns, as a value. -/
def SpPost (w : World) (rs ls : List Int) (ok : Bool) (e : Ending) (w' : World) : Prop :=
  ∃ (A B : Option Addr) (c d : Nat), e = .returned (.tuple #[.agg #[.slice A rs.length c, .slice B ls.length d], .bool ok]) ∧ TwoS w.heap.size w' (.slice A rs.length c) (.slice B ls.length d) rs ls ∧ rs.length ≤ c ∧ ls.length ≤ d ∧ c ≤ 9223372036854775807 ∧ d ≤ 9223372036854775807 ∧ Below w.heap.size w w'
theorem spPost_of {w : World} {ps : List Pt} {rs ls : List Int} {ok : Bool} (h1 : (spOf ps).getD ([], []) = (rs, ls)) (h2 : (spOf ps).isSome = ok) {e : Ending} {w' : World} (h : SpOfPost w ps e w') : SpPost w rs ls ok e w' := by
  obtain ⟨v, u, rs', ls', q1, q2, q3, q4, q5, q6⟩ := h
  rw [h1] at q1
  cases q1
  obtain ⟨A, c, rfl, hc, hm, _, _⟩ := q3.form
  obtain ⟨B, d, rfl, hd, hn, _, _⟩ := q4.form
  exact ⟨A, B, c, d, by rw [q2, h2], ⟨q3, q4⟩, hc, hd, hm, hn, q6⟩
theorem nH_app (a b : List Pt) : nH (a ++ b) = nH a + nH b := by
  induction a with
  | nil => simp [nH]
  | cons p r ih => rw [List.cons_append, nH, nH, ih]; omega
theorem nH_in (l : List Pt) : 0 ≤ nH l ∧ nH l ≤ (l.length : Int) := by
  induction l with
  | nil => simp [nH]
  | cons p r ih => rw [nH]; simp; split <;> omega
theorem nH_step {l : List Pt} {k : Nat} {p : Pt} (h : l[k]? = some p) : nH (l.take (k + 1)) = nH (l.take k) + (if holeB p = false then 1 else 0) := by
  rw [List.take_add_one, h, nH_app]
  simp [nH]
theorem sum_bd {rs ls : List Int} (h : spaceB rs ls = true) : rs.length = 64 ∧ ∀ i, 0 ≤ rs.getD i 0 ∧ rs.getD i 0 ≤ 1048576 := by
  simp only [spaceB, Bool.and_eq_true, decide_eq_true_eq, List.all_eq_true] at h
  obtain ⟨h1, h2, h3⟩ := h
  refine ⟨h1, fun i => ?_⟩
  by_cases hi : i < 64
  · have := okRow_iff.1 (h3 i (by simp [hi]))
    omega
  · rw [List.getD_eq_getElem?_getD, List.getElem?_eq_none (by omega)]
    simp

end Go.Proofs.Ytomofiklodojeaa
