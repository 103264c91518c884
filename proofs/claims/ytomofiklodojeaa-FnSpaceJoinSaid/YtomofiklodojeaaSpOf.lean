/- What a list of pointers makes of space, in plain Lean. -/
import Derived.Test.YtomofiklodojeaaPtrS
namespace Go.Proofs.Ytomofiklodojeaa
open Go.RowKit
set_option linter.unusedVariables false

def dupB (pre : List Pt) (p : Pt) : Bool := pre.any fun q => q.at_ == p.at_ && q.birth == p.birth
theorem dupB_iff {pre : List Pt} {p : Pt} : dupB pre p = true ↔ ∃ q ∈ pre, q.at_ = p.at_ ∧ q.birth = p.birth := by simp [dupB]
def addR (rs : List Int) (p : Pt) : List Int := rs.set p.at_.toNat (rs.getD p.at_.toNat 0 + 1)
def addB' (ls : List Int) (p : Pt) : List Int := ls.set p.at_.toNat (max (ls.getD p.at_.toNat 0) p.birth)
def spFrom : List Pt → List Pt → List Int → List Int → Option (List Int × List Int)
  | _, [], rs, ls => some (rs, ls)
  | pre, p :: r, rs, ls => if ptrB p = true then (if holeB p = true then spFrom (pre ++ [p]) r rs ls else if dupB pre p = true then none else spFrom (pre ++ [p]) r (addR rs p) (addB' ls p)) else none
def spOf (ps : List Pt) : Option (List Int × List Int) := spFrom [] ps (List.replicate 64 0) (List.replicate 64 0)

/-- How far the counting has come. -/
def SpAt (ps : List Pt) (k : Nat) (rs ls : List Int) : Prop := spOf ps = spFrom (ps.take k) (ps.drop k) rs ls ∧ rs.length = 64 ∧ ls.length = 64 ∧ (∀ i, 0 ≤ rs.getD i 0 ∧ rs.getD i 0 ≤ k) ∧ ∀ i, 0 ≤ ls.getD i 0 ∧ ls.getD i 0 ≤ 900
theorem spAt_start (ps : List Pt) : SpAt ps 0 (List.replicate 64 0) (List.replicate 64 0) := by
  refine ⟨by simp [spOf], by simp, by simp, fun i => ?_, fun i => ?_⟩
  · have : (List.replicate 64 (0 : Int)).getD i 0 = 0 := by
      rw [List.getD_eq_getElem?_getD, List.getElem?_replicate]; split <;> rfl
    rw [this]; omega
  · have : (List.replicate 64 (0 : Int)).getD i 0 = 0 := by
      rw [List.getD_eq_getElem?_getD, List.getElem?_replicate]; split <;> rfl
    rw [this]; omega
section
variable {ps : List Pt} {k : Nat} {rs ls : List Int} {p : Pt}
theorem sp_step (h : SpAt ps k rs ls) (hp : ps[k]? = some p) : k < ps.length ∧ ps.take (k + 1) = ps.take k ++ [p] ∧ ps.drop k = p :: ps.drop (k + 1) := by
  have hk : k < ps.length := by
    rcases Nat.lt_or_ge k ps.length with h' | h'
    · exact h'
    · rw [List.getElem?_eq_none h'] at hp; cases hp
  have e : ps[k] = p := by rw [List.getElem?_eq_getElem hk] at hp; exact Option.some.inj hp
  exact ⟨hk, by rw [List.take_add_one, hp]; rfl, by rw [List.drop_eq_getElem_cons hk, e]⟩
theorem sp_bad (h : SpAt ps k rs ls) (hp : ps[k]? = some p) (hb : ptrB p = false) : spOf ps = none := by
  obtain ⟨_, _, d⟩ := sp_step h hp
  rw [h.1, d, spFrom, hb]; rfl
theorem sp_hole (h : SpAt ps k rs ls) (hp : ps[k]? = some p) (hb : ptrB p = true) (hh : holeB p = true) : SpAt ps (k + 1) rs ls := by
  obtain ⟨_, t, d⟩ := sp_step h hp
  refine ⟨?_, h.2.1, h.2.2.1, fun i => by have := h.2.2.2.1 i; omega, h.2.2.2.2⟩
  rw [h.1, d, spFrom, hb, hh, t]; rfl
theorem sp_dup (h : SpAt ps k rs ls) (hp : ps[k]? = some p) (hb : ptrB p = true) (hh : holeB p = false) (hd : dupB (ps.take k) p = true) : spOf ps = none := by
  obtain ⟨_, t, d⟩ := sp_step h hp
  rw [h.1, d, spFrom, hb, hh, hd]; rfl
theorem ptr_in (hb : ptrB p = true) (hh : holeB p = false) : 8 ≤ p.at_ ∧ p.at_ ≤ 63 ∧ 1 ≤ p.birth ∧ p.birth ≤ 900 := by
  simp only [ptrB, hh, Bool.false_or, Bool.and_eq_true] at hb
  have h1 := inB_true hb.1
  have h2 := inB_true hb.2.1
  omega
theorem getD_set (l : List Int) (i j : Nat) (v : Int) (hi : i < l.length) : (l.set i v).getD j 0 = if j = i then v else l.getD j 0 := by
  simp only [List.getD_eq_getElem?_getD]
  by_cases h : j = i
  · subst h
    rw [List.getElem?_set_self hi, if_pos rfl]; rfl
  · rw [List.getElem?_set_ne (by omega), if_neg h]
theorem sp_new (h : SpAt ps k rs ls) (hp : ps[k]? = some p) (hb : ptrB p = true) (hh : holeB p = false) (hd : dupB (ps.take k) p = false) : SpAt ps (k + 1) (addR rs p) (addB' ls p) := by
  obtain ⟨_, t, d⟩ := sp_step h hp
  obtain ⟨h1, h2, h3, h4⟩ := ptr_in hb hh
  refine ⟨?_, by rw [addR, List.length_set]; exact h.2.1, by rw [addB', List.length_set]; exact h.2.2.1, fun i => ?_, fun i => ?_⟩
  · rw [h.1, d, spFrom, hb, hh, hd, t]; rfl
  · rw [addR, getD_set _ _ _ _ (by rw [h.2.1]; omega)]
    have a := h.2.2.2.1 i
    have b := h.2.2.2.1 p.at_.toNat
    split <;> omega
  · rw [addB', getD_set _ _ _ _ (by rw [h.2.2.1]; omega)]
    have a := h.2.2.2.2 i
    have b := h.2.2.2.2 p.at_.toNat
    split <;> omega
theorem sp_end (h : SpAt ps ps.length rs ls) : spOf ps = some (rs, ls) := by
  rw [h.1, List.drop_length]
  cases ps.take ps.length <;> rfl

/-- The pairs that were met. -/
def seenP (ps : List Pt) (k : Nat) (a b : Int) : Prop := ∃ q ∈ ps.take k, holeB q = false ∧ q.at_ = a ∧ q.birth = b
theorem seen_zero (ps : List Pt) (a b : Int) : seenP ps 0 a b ↔ False := by simp [seenP]
theorem seen_hole (h : SpAt ps k rs ls) (hp : ps[k]? = some p) (hh : holeB p = true) (a b : Int) : seenP ps k a b ↔ seenP ps (k + 1) a b := by
  obtain ⟨_, t, _⟩ := sp_step h hp
  simp only [seenP, t, List.mem_append, List.mem_singleton]
  constructor
  · rintro ⟨q, hq, r⟩
    exact ⟨q, .inl hq, r⟩
  · rintro ⟨q, hq | rfl, r⟩
    · exact ⟨q, hq, r⟩
    · rw [hh] at r; cases r.1
theorem seen_new (h : SpAt ps k rs ls) (hp : ps[k]? = some p) (hh : holeB p = false) (a b : Int) : (seenP ps k a b ∨ (a = p.at_ ∧ b = p.birth)) ↔ seenP ps (k + 1) a b := by
  obtain ⟨_, t, _⟩ := sp_step h hp
  simp only [seenP, t, List.mem_append, List.mem_singleton]
  constructor
  · rintro (⟨q, hq, r⟩ | ⟨rfl, rfl⟩)
    · exact ⟨q, .inl hq, r⟩
    · exact ⟨p, .inr rfl, hh, rfl, rfl⟩
  · rintro ⟨q, hq | rfl, r⟩
    · exact .inl ⟨q, hq, r⟩
    · exact .inr ⟨r.2.1.symm, r.2.2.symm⟩
theorem seen_dup (hb : ptrB p = true) (hh : holeB p = false) : seenP ps k p.at_ p.birth ↔ dupB (ps.take k) p = true := by
  obtain ⟨h1, _⟩ := ptr_in hb hh
  rw [dupB_iff]
  constructor
  · rintro ⟨q, hq, _, r⟩
    exact ⟨q, hq, r⟩
  · rintro ⟨q, hq, r1, r2⟩
    refine ⟨q, hq, ?_, r1, r2⟩
    cases hq : holeB q
    · rfl
    · simp only [holeB, Bool.and_eq_true, beq_iff_eq] at hq
      omega
end

end Go.Proofs.Ytomofiklodojeaa
