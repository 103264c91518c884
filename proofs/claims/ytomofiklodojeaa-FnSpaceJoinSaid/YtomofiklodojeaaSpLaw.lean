/- What counting gives, in closed form. -/
import Derived.Test.YtomofiklodojeaaSpOf
import Derived.Test.YtomofiklodojeaaSpace
namespace Go.Proofs.Ytomofiklodojeaa
open Go.RowKit
set_option linter.unusedVariables false

def okSp : List Pt → List Pt → Prop
  | [], _ => True
  | p :: r, pre => ptrB p = true ∧ (holeB p = false → dupB pre p = false) ∧ okSp r (pre ++ [p])
theorem spFrom_iff (r : List Pt) : ∀ (pre : List Pt) (rs ls : List Int), (∃ x, spFrom pre r rs ls = some x) ↔ okSp r pre := by
  induction r with
  | nil => intro pre rs ls; cases pre <;> simp [spFrom, okSp]
  | cons p r ih =>
    intro pre rs ls
    rw [spFrom, okSp]
    cases hb : ptrB p
    · simp
    · cases hh : holeB p
      · cases hd : dupB pre p
        · simp [ih]
        · simp
      · simp [ih]
/-- How often a row is met; the greatest birth there. -/
def cnH : List Pt → Nat → Int
  | [], _ => 0
  | p :: r, j => (if holeB p = false ∧ p.at_ = (j : Int) then 1 else 0) + cnH r j
def mxH : List Pt → Nat → Int
  | [], _ => 0
  | p :: r, j => max (if holeB p = false ∧ p.at_ = (j : Int) then p.birth else 0) (mxH r j)
theorem mxH_nn (l : List Pt) (j : Nat) : 0 ≤ mxH l j := by
  induction l with
  | nil => exact Int.le_refl 0
  | cons p r ih => rw [mxH]; omega
theorem cnH_app (l m : List Pt) (j : Nat) : cnH (l ++ m) j = cnH l j + cnH m j := by
  induction l with
  | nil => simp [cnH]
  | cons p r ih => rw [List.cons_append, cnH, cnH, ih]; omega
theorem mxH_app (l m : List Pt) (j : Nat) : mxH (l ++ m) j = max (mxH l j) (mxH m j) := by
  induction l with
  | nil =>
    have := mxH_nn m j
    show mxH m j = max 0 (mxH m j)
    omega
  | cons p r ih => rw [List.cons_append, mxH, mxH, ih]; omega

theorem spFrom_val (r : List Pt) : ∀ (pre : List Pt) (rs ls rs' ls' : List Int), spFrom pre r rs ls = some (rs', ls') → rs.length = 64 → ls.length = 64 → (∀ j, 0 ≤ ls.getD j 0) →
    rs'.length = 64 ∧ ls'.length = 64 ∧ ∀ j, rs'.getD j 0 = rs.getD j 0 + cnH r j ∧ ls'.getD j 0 = max (ls.getD j 0) (mxH r j) := by
  induction r with
  | nil =>
    intro pre rs ls rs' ls' h h1 h2 h3
    have e : spFrom pre [] rs ls = some (rs, ls) := by cases pre <;> rfl
    rw [e] at h
    cases h
    refine ⟨h1, h2, fun j => ?_⟩
    have := h3 j
    exact ⟨by rw [cnH]; omega, by rw [mxH]; omega⟩
  | cons p r ih =>
    intro pre rs ls rs' ls' h h1 h2 h3
    rw [spFrom] at h
    cases hb : ptrB p
    · rw [hb] at h; simp at h
    · rw [hb] at h
      cases hh : holeB p
      · rw [hh] at h
        cases hd : dupB pre p
        · rw [hd] at h
          simp only [if_true, Bool.false_eq_true, if_false] at h
          obtain ⟨q1, q2, q3, q4⟩ := ptr_in hb hh
          obtain ⟨a1, a2, a3⟩ := ih _ _ _ _ _ h (by rw [addR, List.length_set]; exact h1) (by rw [addB', List.length_set]; exact h2) (fun j => by
            rw [addB', getD_set _ _ _ _ (by omega)]
            have := h3 j
            have := h3 p.at_.toNat
            split <;> omega)
          refine ⟨a1, a2, fun j => ?_⟩
          obtain ⟨b1, b2⟩ := a3 j
          rw [addR, getD_set _ _ _ _ (by omega)] at b1
          rw [addB', getD_set _ _ _ _ (by omega)] at b2
          have m := mxH_nn r j
          have l0 := h3 j
          by_cases hj : j = p.at_.toNat
          · have e : holeB p = false ∧ p.at_ = (j : Int) := ⟨hh, by omega⟩
            rw [if_pos hj] at b1 b2
            rw [cnH, mxH, if_pos e, if_pos e]
            subst hj
            exact ⟨by omega, by omega⟩
          · have e : ¬ (holeB p = false ∧ p.at_ = (j : Int)) := fun e => hj (by omega)
            rw [if_neg hj] at b1 b2
            rw [cnH, mxH, if_neg e, if_neg e]
            exact ⟨by omega, by omega⟩
        · rw [hd] at h; simp at h
      · rw [hh] at h
        simp only [if_true] at h
        obtain ⟨a1, a2, a3⟩ := ih _ _ _ _ _ h h1 h2 h3
        refine ⟨a1, a2, fun j => ?_⟩
        obtain ⟨b1, b2⟩ := a3 j
        have e : ¬ (holeB p = false ∧ p.at_ = (j : Int)) := fun e => by rw [hh] at e; cases e.1
        have m := mxH_nn r j
        rw [cnH, mxH, if_neg e, if_neg e]
        exact ⟨by omega, by omega⟩

theorem dup_sub {pre pre' : List Pt} {p : Pt} (hs : ∀ q ∈ pre', q ∈ pre) (h : dupB pre p = false) : dupB pre' p = false := by
  cases hd : dupB pre' p
  · rfl
  · obtain ⟨q, hq, r⟩ := dupB_iff.1 hd
    rw [dupB_iff.2 ⟨q, hs q hq, r⟩] at h
    cases h
theorem okSp_sub (r : List Pt) : ∀ (pre pre' : List Pt), (∀ q ∈ pre', q ∈ pre) → okSp r pre → okSp r pre' := by
  induction r with
  | nil => intro _ _ _ _; trivial
  | cons p r ih =>
    intro pre pre' hs h
    refine ⟨h.1, fun hh => dup_sub hs (h.2.1 hh), ih _ _ ?_ h.2.2⟩
    intro q hq
    rcases List.mem_append.1 hq with hq | hq
    · exact List.mem_append_left _ (hs q hq)
    · exact List.mem_append_right _ hq
theorem okSp_app (a : List Pt) : ∀ (b pre : List Pt), okSp (a ++ b) pre ↔ okSp a pre ∧ okSp b (pre ++ a) := by
  induction a with
  | nil => intro b pre; simp [okSp]
  | cons p a ih =>
    intro b pre
    rw [List.cons_append, okSp, okSp, ih]
    simp [List.append_assoc, and_assoc]
/-- Two lists that count together count each. -/
theorem spOf_ok {l : List Pt} : (∃ x, spOf l = some x) ↔ okSp l [] := spFrom_iff l [] _ _
theorem spOf_left {a b : List Pt} (h : okSp (a ++ b) []) : okSp a [] := ((okSp_app a b []).1 h).1
theorem spOf_right {a b : List Pt} (h : okSp (a ++ b) []) : okSp b [] := okSp_sub b _ _ (fun q hq => by cases hq) ((okSp_app a b []).1 h).2
theorem zero_getD (j : Nat) : (List.replicate 64 (0 : Int)).getD j 0 = 0 := by
  rw [List.getD_eq_getElem?_getD, List.getElem?_replicate]
  split <;> rfl
theorem spOf_val {l : List Pt} {rs ls : List Int} (h : spOf l = some (rs, ls)) : rs.length = 64 ∧ ls.length = 64 ∧ ∀ j, rs.getD j 0 = cnH l j ∧ ls.getD j 0 = mxH l j := by
  obtain ⟨a1, a2, a3⟩ := spFrom_val l [] _ _ _ _ h (by simp) (by simp) (fun j => by rw [zero_getD]; omega)
  refine ⟨a1, a2, fun j => ?_⟩
  obtain ⟨b1, b2⟩ := a3 j
  rw [zero_getD] at b1 b2
  have := mxH_nn l j
  exact ⟨by omega, by omega⟩
/-- A join is sums and maxima. -/
theorem spOf_join {a b : List Pt} {r1 l1 r2 l2 r3 l3 : List Int} (h1 : spOf a = some (r1, l1)) (h2 : spOf b = some (r2, l2)) (h3 : spOf (a ++ b) = some (r3, l3)) (j : Nat) :
    r3.getD j 0 = r1.getD j 0 + r2.getD j 0 ∧ l3.getD j 0 = max (l1.getD j 0) (l2.getD j 0) := by
  obtain ⟨_, _, a3⟩ := spOf_val h1
  obtain ⟨_, _, b3⟩ := spOf_val h2
  obtain ⟨_, _, c3⟩ := spOf_val h3
  rw [(a3 j).1, (b3 j).1, (c3 j).1, (a3 j).2, (b3 j).2, (c3 j).2]
  exact ⟨cnH_app a b j, mxH_app a b j⟩

/-- The references are as many as the pointers that are no holes. -/
def nH : List Pt → Int
  | [] => 0
  | p :: r => (if holeB p = false then 1 else 0) + nH r
theorem sum_map_add (f g : Nat → Int) (n : Nat) : ((List.range n).map fun j => f j + g j).sum = ((List.range n).map f).sum + ((List.range n).map g).sum := by
  induction n with
  | zero => rfl
  | succ n ih =>
    simp only [List.range_succ, List.map_append, List.map_cons, List.map_nil, List.sum_append, List.sum_cons, List.sum_nil, ih]
    omega
theorem sum_ind (P : Prop) [Decidable P] (a : Int) (n : Nat) : ((List.range n).map fun j => if P ∧ a = ((j : Nat) : Int) then (1 : Int) else 0).sum = if P ∧ 0 ≤ a ∧ a < (n : Int) then 1 else 0 := by
  induction n with
  | zero =>
    rw [if_neg (by omega)]
    rfl
  | succ n ih =>
    simp only [List.range_succ, List.map_append, List.map_cons, List.map_nil, List.sum_append, List.sum_cons, List.sum_nil, ih]
    by_cases hP : P
    · simp only [hP, true_and]
      repeat' split
      all_goals omega
    · simp only [hP, false_and, if_false]
      omega
theorem okSp_all (r : List Pt) : ∀ pre, okSp r pre → ∀ p ∈ r, ptrB p = true := by
  induction r with
  | nil => intro _ _ p hp; cases hp
  | cons q r ih =>
    intro pre h p hp
    rcases List.mem_cons.1 hp with rfl | hp
    · exact h.1
    · exact ih _ h.2.2 p hp
theorem sum_cnH (l : List Pt) (h : ∀ p ∈ l, ptrB p = true) : ((List.range 64).map (cnH l)).sum = nH l := by
  induction l with
  | nil =>
    show ((List.range 64).map fun _ => (0 : Int)).sum = 0
    decide
  | cons p r ih =>
    have e : (cnH (p :: r)) = fun (j : Nat) => (if holeB p = false ∧ p.at_ = (j : Int) then 1 else 0) + cnH r j := by
      funext j; rfl
    rw [e, sum_map_add, ih (fun q hq => h q (List.mem_cons_of_mem _ hq)), sum_ind, nH]
    cases hh : holeB p
    · obtain ⟨q1, q2, _, _⟩ := ptr_in (h p (List.mem_cons_self ..)) hh
      rw [if_pos (by simp; omega), if_pos rfl]
    · rw [if_neg (by simp), if_neg (by simp)]
theorem row_eq {rs : List Int} {f : Nat → Int} (hl : rs.length = 64) (h : ∀ j, rs.getD j 0 = f j) : rs = (List.range 64).map f := by
  apply List.ext_getElem?
  intro i
  by_cases hi : i < 64
  · have := h i
    rw [List.getD_eq_getElem?_getD, List.getElem?_eq_getElem (by omega)] at this
    rw [List.getElem?_eq_getElem (by omega), List.getElem?_map, List.getElem?_range hi]
    exact congrArg some this
  · rw [List.getElem?_eq_none (by omega), List.getElem?_eq_none (by simp; omega)]
theorem spOf_sum {l : List Pt} {rs ls : List Int} (h : spOf l = some (rs, ls)) : rs.sum = nH l := by
  obtain ⟨a1, _, a3⟩ := spOf_val h
  rw [row_eq a1 (fun j => (a3 j).1)]
  exact sum_cnH l (okSp_all l [] (spOf_ok.1 ⟨_, h⟩))

/-- The tail of a list that counts counts, one less or as many. -/
theorem spOf_tail {p : Pt} {r : List Pt} (h : okSp (p :: r) []) : okSp r [] := okSp_sub r _ _ (fun q hq => by cases hq) h.2.2
/-- The births that were met at a row. -/
def births : List Pt → Nat → List Int
  | [], _ => []
  | p :: r, j => if holeB p = false ∧ p.at_ = (j : Int) then p.birth :: births r j else births r j
theorem births_len (l : List Pt) (j : Nat) : ((births l j).length : Int) = cnH l j := by
  induction l with
  | nil => rfl
  | cons p r ih =>
    rw [births, cnH]
    split
    · rw [List.length_cons]; omega
    · omega
theorem births_mem {l : List Pt} {j : Nat} {b : Int} (h : b ∈ births l j) : ∃ p ∈ l, holeB p = false ∧ p.at_ = (j : Int) ∧ p.birth = b := by
  induction l with
  | nil => cases h
  | cons p r ih =>
    rw [births] at h
    split at h
    · next e =>
      rcases List.mem_cons.1 h with rfl | h
      · exact ⟨p, List.mem_cons_self .., e.1, e.2, rfl⟩
      · obtain ⟨q, hq, r⟩ := ih h
        exact ⟨q, List.mem_cons_of_mem _ hq, r⟩
    · obtain ⟨q, hq, r⟩ := ih h
      exact ⟨q, List.mem_cons_of_mem _ hq, r⟩
theorem okSp_notin {r : List Pt} : ∀ {pre : List Pt} {p : Pt}, okSp r pre → p ∈ pre → ∀ q ∈ r, holeB q = false → ¬ (p.at_ = q.at_ ∧ p.birth = q.birth) := by
  induction r with
  | nil => intro _ _ _ _ q hq; cases hq
  | cons x r ih =>
    intro pre p h hp q hq hh he
    rcases List.mem_cons.1 hq with rfl | hq
    · have := h.2.1 hh
      rw [dupB_iff.2 ⟨p, hp, he⟩] at this
      cases this
    · exact ih h.2.2 (List.mem_append_left _ hp) q hq hh he
theorem births_nodup {r : List Pt} (j : Nat) : ∀ {pre : List Pt}, okSp r pre → (births r j).Nodup := by
  induction r with
  | nil => intro _ _; exact List.nodup_nil
  | cons p r ih =>
    intro pre h
    rw [births]
    split
    · next e =>
      refine List.nodup_cons.2 ⟨fun hm => ?_, ih h.2.2⟩
      obtain ⟨q, hq, hh, ha, hb⟩ := births_mem hm
      exact okSp_notin h.2.2 (List.mem_append_right _ (List.mem_cons_self ..)) q hq hh ⟨by rw [e.2, ha], hb.symm⟩
    · exact ih h.2.2
theorem births_le {l : List Pt} {j : Nat} {b : Int} (h : b ∈ births l j) : b ≤ mxH l j := by
  induction l with
  | nil => cases h
  | cons p r ih =>
    rw [births] at h
    rw [mxH]
    split at h
    · next e =>
      rw [if_pos e]
      rcases List.mem_cons.1 h with rfl | h
      · omega
      · have := ih h; omega
    · have := ih h; omega

theorem filter_len {l : List Int} (hd : l.Nodup) (x : Int) : l.length ≤ (l.filter fun y => decide (y ≠ x)).length + 1 := by
  induction l with
  | nil => exact Nat.zero_le _
  | cons a r ih =>
    obtain ⟨h1, h2⟩ := List.nodup_cons.1 hd
    by_cases h : a = x
    · have e : (r.filter fun y => decide (y ≠ x)) = r := List.filter_eq_self.2 (fun b hb => decide_eq_true (fun e => h1 (by rw [h, ← e]; exact hb)))
      rw [List.filter_cons, if_neg (by simp [h]), e, List.length_cons]
      exact Nat.le_refl _
    · have := ih h2
      rw [List.filter_cons, if_pos (by simpa using h), List.length_cons, List.length_cons]
      omega
theorem nodup_len (m : Nat) : ∀ {l : List Int}, l.Nodup → (∀ b ∈ l, 1 ≤ b ∧ b ≤ (m : Int)) → l.length ≤ m := by
  induction m with
  | zero =>
    intro l _ h
    cases l with
    | nil => exact Nat.le_refl _
    | cons a r =>
      have := h a (List.mem_cons_self ..)
      omega
  | succ m ih =>
    intro l hd h
    have h1 := filter_len hd ((m + 1 : Nat) : Int)
    have h2 := ih (hd.filter fun y => decide (y ≠ ((m + 1 : Nat) : Int))) (fun b hb => by
      obtain ⟨hb1, hb2⟩ := List.mem_filter.1 hb
      have hb3 := of_decide_eq_true hb2
      have := h b hb1
      omega)
    omega
theorem mxH_le (l : List Pt) (h : ∀ p ∈ l, ptrB p = true) (j : Nat) : mxH l j ≤ 900 := by
  induction l with
  | nil => show (0 : Int) ≤ 900; omega
  | cons p r ih =>
    have i := ih (fun q hq => h q (List.mem_cons_of_mem _ hq))
    rw [mxH]
    split
    · next e =>
      have := ptr_in (h p (List.mem_cons_self ..)) e.1
      omega
    · omega
/-- What counting makes is space that is valid. -/
theorem spOf_space {l : List Pt} {rs ls : List Int} (h : spOf l = some (rs, ls)) : spaceB rs ls = true := by
  have hk := spOf_ok.1 ⟨_, h⟩
  have ha := okSp_all l [] hk
  obtain ⟨a1, a2, a3⟩ := spOf_val h
  refine spaceB_yes a1 a2 (fun i hi => okRow_iff.2 ?_)
  obtain ⟨b1, b2⟩ := a3 i
  rw [b1, b2]
  have c0 := births_len l i
  have c1 := mxH_nn l i
  have c2 := mxH_le l ha i
  have hb : ∀ b ∈ births l i, 1 ≤ b ∧ b ≤ ((mxH l i).toNat : Int) := fun b hb => by
    have := births_le hb
    obtain ⟨p, hp, hh, _, he⟩ := births_mem hb
    have := ptr_in (ha p hp) hh
    omega
  have c3 := nodup_len (mxH l i).toNat (births_nodup i hk) hb
  refine ⟨by omega, by omega, c2, fun h0 => ?_, fun h0 => ?_⟩
  · have he : births l i = [] := List.length_eq_zero_iff.1 (by omega)
    clear c3 hb
    suffices ∀ l : List Pt, births l i = [] → mxH l i = 0 from this l he
    intro l he
    induction l with
    | nil => rfl
    | cons p r ih =>
      rw [births] at he
      rw [mxH]
      split at he
      · cases he
      · next e => rw [if_neg e, ih he]; rfl
  · have hpos : 0 < (births l i).length := by omega
    obtain ⟨p, hp, hh, hat, _⟩ := births_mem (List.getElem_mem hpos)
    have := ptr_in (ha p hp) hh
    omega

end Go.Proofs.Ytomofiklodojeaa
