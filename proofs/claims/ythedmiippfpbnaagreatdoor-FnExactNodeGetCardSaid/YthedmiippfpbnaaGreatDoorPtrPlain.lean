/- The texts of pointers, in plain Lean; no program in sight. -/
import Derived.Test.YthedmiippfpbnaaGreatDoorTextPlain
import Derived.Test.YthedmiippfpbnaaGreatDoorPtr
namespace Go.Proofs.YthedmiippfpbnaaGreatDoor
open Go.RowKit
set_option linter.unusedVariables false
set_option linter.unusedSimpArgs false

theorem cutA_dot {c : UInt8} {x r : List UInt8} (h : c ∉ x) : cutL c (x ++ c :: r) = x :: cutL c r := cutL_hit c x r h

/-- A pointer's text. -/
def ptrL (p : Pt) : List UInt8 :=
  if holeB p = true then [45] else decL p.at_ ++ 46 :: (decL p.birth ++ 46 :: (decL p.size ++ 46 :: (decL p.sum ++ 46 :: decL p.level)))
def ptrT (p : Pt) : ByteArray := if ptrB p = true then ofL (ptrL p) else ⟨#[]⟩
def hole : Pt := ⟨0, 0, 0, 0, 0⟩
theorem hole_hole : holeB hole = true := rfl
theorem hole_eq {p : Pt} (h : holeB p = true) : p = hole := by
  obtain ⟨a, b, c, d, e⟩ := p
  simp only [holeB, Bool.and_eq_true, beq_iff_eq] at h
  obtain ⟨rfl, rfl, rfl, rfl, rfl⟩ := h
  rfl
theorem ptr_bounds {p : Pt} (h : ptrB p = true) : 0 ≤ p.at_ ∧ p.at_ ≤ 999999999 ∧ 0 ≤ p.birth ∧ p.birth ≤ 999999999 ∧ 0 ≤ p.size ∧ p.size ≤ 999999999 ∧ 0 ≤ p.sum ∧ p.sum ≤ 999999999 ∧ 0 ≤ p.level ∧ p.level ≤ 999999999 := by
  cases hh : holeB p
  · simp only [ptrB, hh, Bool.false_or, Bool.and_eq_true] at h
    obtain ⟨h1, h2, h3, h4, h5⟩ := h
    have := inB_true h1
    have := inB_true h2
    have := inB_true h3
    have := inB_true h4
    have := inB_true h5
    omega
  · rw [hole_eq hh]
    simp [hole]
theorem dec_ne_dash {n : Int} {r : List UInt8} : [45] ≠ decL n ++ r := fun e => by
  have h1 : 1 ≤ (decL n).length := dec_pos _
  cases hd : decL n with
  | nil => rw [hd] at h1; simp at h1
  | cons b m =>
    rw [hd] at e
    simp only [List.cons_append, List.cons.injEq] at e
    have : b ∈ decL n := by rw [hd]; exact List.mem_cons_self ..
    rw [← e.1] at this
    exact decL_free (by decide) this
theorem ptrL_inj {p q : Pt} (hp : ptrB p = true) (hq : ptrB q = true) (h : ptrL p = ptrL q) : p = q := by
  have b1 := ptr_bounds hp
  have b2 := ptr_bounds hq
  cases h1 : holeB p
  · cases h2 : holeB q
    · simp only [ptrL, h1, h2, Bool.false_eq_true, if_false] at h
      have f : ∀ {n : Int}, (46 : UInt8) ∉ decL n := decL_free (by decide)
      obtain ⟨e1, h⟩ := cut_two f f h
      obtain ⟨e2, h⟩ := cut_two f f h
      obtain ⟨e3, h⟩ := cut_two f f h
      obtain ⟨e4, e5⟩ := cut_two f f h
      have k1 := decL_inj (by omega) (by omega) e1
      have k2 := decL_inj (by omega) (by omega) e2
      have k3 := decL_inj (by omega) (by omega) e3
      have k4 := decL_inj (by omega) (by omega) e4
      have k5 := decL_inj (by omega) (by omega) e5
      clear e1 e2 e3 e4 e5 b1 b2 hp hq h h1 h2
      obtain ⟨a, b, c, d, e⟩ := p
      obtain ⟨a', b', c', d', e'⟩ := q
      dsimp only at k1 k2 k3 k4 k5
      subst k1 k2 k3 k4 k5
      rfl
    · simp only [ptrL, h1, h2, Bool.false_eq_true, if_false, if_true] at h
      exact absurd h.symm dec_ne_dash
  · cases h2 : holeB q
    · simp only [ptrL, h1, h2, Bool.false_eq_true, if_false, if_true] at h
      exact absurd h dec_ne_dash
    · rw [hole_eq h1, hole_eq h2]
/-- A pointer's text is cut at its dots into its numbers. -/
theorem ptr_cut {p : Pt} (h : holeB p = false) : cutL 46 (ptrL p) = [decL p.at_, decL p.birth, decL p.size, decL p.sum, decL p.level] := by
  have f : ∀ {n : Int}, (46 : UInt8) ∉ decL n := decL_free (by decide)
  simp only [ptrL, h, Bool.false_eq_true, if_false]
  rw [cutL_hit 46 _ _ f, cutL_hit 46 _ _ f, cutL_hit 46 _ _ f, cutL_hit 46 _ _ f, cutL_one 46 _ f]
theorem cutL_back {c : UInt8} {s : List UInt8} {xs : List (List UInt8)} (h : cutL c s = xs) : slash c xs = c :: s := by rw [← h]; exact cutL_slash c s
/-- Five texts that a text is cut into, each a number: then it is that pointer's text. -/
theorem ptr_five {s : ByteArray} {a b c d e : ByteArray} (h : cutB 46 s = [a, b, c, d, e]) (ha : numB a = true) (hb : numB b = true) (hc : numB c = true) (hd : numB d = true) (he : numB e = true) :
    s.data.toList = decL (numV a) ++ 46 :: (decL (numV b) ++ 46 :: (decL (numV c) ++ 46 :: (decL (numV d) ++ 46 :: decL (numV e)))) := by
  have h1 := congrArg (List.map (·.data.toList)) h
  rw [cutB, map_data_ofL] at h1
  have h2 := cutL_back h1
  simp only [List.map_cons, List.map_nil, slash, List.flatten_cons, List.flatten_nil, List.append_nil, List.cons_append, List.cons.injEq, true_and] at h2
  rw [← h2, numB_data ha, numB_data hb, numB_data hc, numB_data hd, numB_data he]
/-- The pointer that a text is the text of. -/
def PtrG (s : ByteArray) (p : Pt) (b : Bool) : Prop :=
  (b = true ∧ ptrB p = true ∧ ptrL p = s.data.toList) ∨ (b = false ∧ p = hole ∧ ∀ q, ptrB q = true → ptrL q ≠ s.data.toList)
theorem ptrG_one {s : ByteArray} {p p' : Pt} {b b' : Bool} (h : PtrG s p b) (h' : PtrG s p' b') : b = b' ∧ p = p' := by
  rcases h with ⟨rfl, h1, h2⟩ | ⟨rfl, rfl, h1⟩
  · rcases h' with ⟨rfl, h1', h2'⟩ | ⟨rfl, rfl, h1'⟩
    · exact ⟨rfl, ptrL_inj h1 h1' (h2.trans h2'.symm)⟩
    · exact absurd h2 (h1' p h1)
  · rcases h' with ⟨rfl, h1', h2'⟩ | ⟨rfl, rfl, h1'⟩
    · exact absurd h2' (h1 p' h1')
    · exact ⟨rfl, rfl⟩
theorem ptrG_put {p : Pt} (h : ptrB p = true) : PtrG (ofL (ptrL p)) p true := .inl ⟨rfl, h, (ofL_data _).symm⟩
/-- A dash is the hole. -/
theorem ptrG_dash : PtrG ⟨#[45]⟩ hole true := .inl ⟨rfl, rfl, rfl⟩
theorem hole_text {q : Pt} (hq : holeB q = true) {s : ByteArray} (h : ptrL q = s.data.toList) : s = ⟨#[45]⟩ := by
  simp only [ptrL, hq, if_true] at h
  exact ofL_ext h.symm
/-- A text other than a dash that is a pointer's is cut into that one's numbers. -/
theorem ptr_texts {s : ByteArray} (hs : s ≠ ⟨#[45]⟩) {q : Pt} (hq : ptrB q = true) (h : ptrL q = s.data.toList) : holeB q = false ∧ cutB 46 s = [decT q.at_, decT q.birth, decT q.size, decT q.sum, decT q.level] := by
  cases hh : holeB q
  · refine ⟨rfl, ?_⟩
    rw [cutB, ← h, ptr_cut hh]
    rfl
  · exact absurd (hole_text hh h) hs
theorem ptrG_len {s : ByteArray} (hs : s ≠ ⟨#[45]⟩) (h : ¬ (cutB 46 s).length = 5) : PtrG s hole false :=
  .inr ⟨rfl, rfl, fun q hq he => h (by rw [(ptr_texts hs hq he).2]; rfl)⟩
theorem numB_decT {n : Int} (h0 : 0 ≤ n) (h1 : n ≤ 999999999) : numB (decT n) = true ∧ numV (decT n) = n := numB_dec h0 h1 (decT_data n)
theorem ptrG_num {s : ByteArray} (hs : s ≠ ⟨#[45]⟩) {i : Nat} {t : ByteArray} (hi : (cutB 46 s)[i]? = some t) (h : numB t = false) : PtrG s hole false :=
  .inr ⟨rfl, rfl, fun q hq he => by
    have hb := ptr_bounds hq
    rw [(ptr_texts hs hq he).2] at hi
    have k : ∀ n, 0 ≤ n → n ≤ 999999999 → t = decT n → False := fun n h0 h1 e => by
      rw [e, (numB_decT h0 h1).1] at h
      cases h
    rcases i with _ | _ | _ | _ | _ | i
    · simp at hi; exact k _ (by omega) (by omega) hi.symm
    · simp at hi; exact k _ (by omega) (by omega) hi.symm
    · simp at hi; exact k _ (by omega) (by omega) hi.symm
    · simp at hi; exact k _ (by omega) (by omega) hi.symm
    · simp at hi; exact k _ (by omega) (by omega) hi.symm
    · simp at hi⟩
theorem ptrG_five {s : ByteArray} (hs : s ≠ ⟨#[45]⟩) {a b c d e : ByteArray} (h : cutB 46 s = [a, b, c, d, e]) (ha : numB a = true) (hb : numB b = true) (hc : numB c = true) (hd : numB d = true) (he : numB e = true) :
    (ptrB ⟨numV a, numV b, numV c, numV d, numV e⟩ = true ∧ holeB ⟨numV a, numV b, numV c, numV d, numV e⟩ = false → PtrG s ⟨numV a, numV b, numV c, numV d, numV e⟩ true) ∧
    (¬ (ptrB ⟨numV a, numV b, numV c, numV d, numV e⟩ = true ∧ holeB ⟨numV a, numV b, numV c, numV d, numV e⟩ = false) → PtrG s hole false) := by
  have h5 := ptr_five h ha hb hc hd he
  constructor
  · rintro ⟨h1, h2⟩
    refine .inl ⟨rfl, h1, ?_⟩
    rw [h5]
    simp only [ptrL, h2, Bool.false_eq_true, if_false]
  · intro hn
    refine .inr ⟨rfl, rfl, fun q hq hqe => hn ?_⟩
    obtain ⟨g1, g2⟩ := ptr_texts hs hq hqe
    rw [h] at g2
    simp only [List.cons.injEq, and_true] at g2
    obtain ⟨rfl, rfl, rfl, rfl, rfl⟩ := g2
    have hb := ptr_bounds hq
    rw [(numB_decT (by omega) (by omega : q.at_ ≤ 999999999)).2, (numB_decT (by omega) (by omega : q.birth ≤ 999999999)).2, (numB_decT (by omega) (by omega : q.size ≤ 999999999)).2, (numB_decT (by omega) (by omega : q.sum ≤ 999999999)).2, (numB_decT (by omega) (by omega : q.level ≤ 999999999)).2]
    exact ⟨hq, g1⟩
theorem ptrL_len {p : Pt} (h : ptrB p = true) : 1 ≤ (ptrL p).length ∧ (ptrL p).length ≤ 49 := by
  have hb := ptr_bounds h
  have a1 := decL_len (n := p.at_) (by omega) (by omega)
  have a2 := decL_len (n := p.birth) (by omega) (by omega)
  have a3 := decL_len (n := p.size) (by omega) (by omega)
  have a4 := decL_len (n := p.sum) (by omega) (by omega)
  have a5 := decL_len (n := p.level) (by omega) (by omega)
  unfold ptrL
  split
  · simp
  · simp only [List.length_append, List.length_cons]
    omega

end Go.Proofs.YthedmiippfpbnaaGreatDoor
