/- The node that a text is the text of, in plain Lean. -/
import Derived.Test.YthedmiippfpbnaaGreatDoorNodePlain
namespace Go.Proofs.YthedmiippfpbnaaGreatDoor
open Go.RowKit
set_option linter.unusedVariables false
set_option linter.unusedSimpArgs false

theorem nodeG_no {s : ByteArray} {l : List ByteArray} {b : Bool} (hl : RecG s l b) (h : ∀ m, nodeB m = true → b = true → l = nodeF m → False) : NodeG s node0 false :=
  .inr ⟨rfl, rfl, fun m hm he => by
    have h1 : RecG s (nodeF m) true := .inl ⟨rfl, node_rec hm, he⟩
    obtain ⟨e1, e2⟩ := recG_one hl h1
    exact h m hm e1 e2⟩
theorem nodeG_len {s : ByteArray} {l : List ByteArray} {b : Bool} (hl : RecG s l b) (h : b = false ∨ l.length ≠ 7) : NodeG s node0 false :=
  nodeG_no hl fun m hm hb he => by
    rcases h with h | h
    · rw [hb] at h; cases h
    · rw [he] at h; exact h rfl
theorem ptrG_T {q : Pt} (hq : ptrB q = true) {p : Pt} {b : Bool} (h : PtrG (ptrT q) p b) : b = true ∧ p = q := by
  rw [ptrT, if_pos hq] at h
  exact ptrG_one h (ptrG_put hq)
theorem nodeT_ne {s a : ByteArray} {r : List ByteArray} (hl : RecG s (a :: r) true) : s ≠ ⟨#[]⟩ := fun e => by
  rcases hl with ⟨_, _, h⟩ | ⟨h, _⟩
  · rw [e] at h
    have := congrArg List.length h
    simp [recL, fldL] at this
  · cases h
section
variable {s a b c d e f g : ByteArray} {p : Pt} {bp : Bool}
/-- Seven fields, each a number's or a pointer's text; what they must be if a node has them. -/
theorem node_seven {m : Nd} (hm : nodeB m = true) (he : [a, b, c, d, e, f, g] = nodeF m) (hp : PtrG d p bp) :
    (numB a = true ∧ numB b = true ∧ numB c = true ∧ bp = true ∧ numB e = true ∧ numB f = true) ∧ (⟨numV a, numV b, numV c, p, numV e, numV f⟩ : Nd) = m := by
  obtain ⟨b1, b2, b3, b4, b5, b6, b7, b8, b9, b10, b11⟩ := node_bounds hm
  obtain ⟨k, li, z, q, dd, mm⟩ := m
  dsimp only at *
  simp only [nodeF, List.cons.injEq, and_true] at he
  obtain ⟨rfl, rfl, rfl, rfl, rfl, rfl, rfl⟩ := he
  obtain ⟨rfl, rfl⟩ := ptrG_T b11 hp
  have k1 := numB_decT (n := k) (by omega) (by omega)
  have k2 := numB_decT (n := li) (by omega) (by omega)
  have k3 := numB_decT (n := z) (by omega) (by omega)
  have k5 := numB_decT (n := dd) (by omega) (by omega)
  have k6 := numB_decT (n := mm) (by omega) (by omega)
  refine ⟨⟨k1.1, k2.1, k3.1, rfl, k5.1, k6.1⟩, ?_⟩
  rw [k1.2, k2.2, k3.2, k5.2, k6.2]
theorem nodeG_bad (hl : RecG s [a, b, c, d, e, f, g] true) (hp : PtrG d p bp) (h : numB a = false ∨ numB b = false ∨ numB c = false ∨ bp = false ∨ numB e = false ∨ numB f = false) : NodeG s node0 false :=
  nodeG_no hl fun m hm _ he => by
    obtain ⟨⟨h1, h2, h3, h4, h5, h6⟩, _⟩ := node_seven hm he hp
    rcases h with h | h | h | h | h | h
    · rw [h1] at h; cases h
    · rw [h2] at h; cases h
    · rw [h3] at h; cases h
    · rw [h4] at h; cases h
    · rw [h5] at h; cases h
    · rw [h6] at h; cases h
theorem nodeG_other (hl : RecG s [a, b, c, d, e, f, g] true) (hp : PtrG d p bp) (h : nodeT ⟨numV a, numV b, numV c, p, numV e, numV f⟩ ≠ s) : NodeG s node0 false :=
  .inr ⟨rfl, rfl, fun m hm hr => by
    have h1 : RecG s (nodeF m) true := .inl ⟨rfl, node_rec hm, hr⟩
    obtain ⟨_, he⟩ := recG_one hl h1
    obtain ⟨_, e2⟩ := node_seven hm he hp
    rw [e2, nodeT, if_pos hm] at h
    exact h (ofL_ext (by rw [recT, ofL_data, hr]))⟩
theorem nodeG_none (hl : RecG s [a, b, c, d, e, f, g] true) (hp : PtrG d p bp) (h : nodeB ⟨numV a, numV b, numV c, p, numV e, numV f⟩ = false) : NodeG s node0 false := by
  refine nodeG_other hl hp fun e => ?_
  rw [nodeT, if_neg (by simp [h])] at e
  exact nodeT_ne hl e.symm
theorem nodeG_some (hl : RecG s [a, b, c, d, e, f, g] true) (h : nodeT ⟨numV a, numV b, numV c, p, numV e, numV f⟩ = s) : NodeG s ⟨numV a, numV b, numV c, p, numV e, numV f⟩ true := by
  cases hb : nodeB ⟨numV a, numV b, numV c, p, numV e, numV f⟩
  · rw [nodeT, if_neg (by simp [hb])] at h
    exact absurd h.symm (nodeT_ne hl)
  · refine .inl ⟨rfl, hb, ?_⟩
    rw [nodeT, if_pos hb] at h
    rw [← h, recT, ofL_data]
end

end Go.Proofs.YthedmiippfpbnaaGreatDoor
