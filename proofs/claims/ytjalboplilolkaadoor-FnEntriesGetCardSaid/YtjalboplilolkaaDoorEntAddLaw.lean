/- One entry more, in plain Lean: where it goes, and when the list stays one of entries. -/
import Derived.Test.YtjalboplilolkaaDoorEntAdd2
namespace Go.Proofs.YtjalboplilolkaaDoor
open Go.RowKit
set_option linter.unusedVariables false

theorem gtB_eq (d x : Ent) : gtB d x = ltB x.name d.name := by
  have e : gtB d x = (!ltB d.name x.name && !(d.name.toList == x.name.toList)) := rfl
  rw [e]
  cases h : ltB x.name d.name
  · cases h1 : ltB d.name x.name
    · have := (eqL_iff d.name x.name).2 (ltB_tri h1 h)
      simp [this]
    · rfl
  · have h1 := ltB_asymm h
    have h2 : (d.name.toList == x.name.toList) = false := by
      cases h3 : (d.name.toList == x.name.toList)
      · rfl
      · rw [(eqL_iff _ _).1 h3, ltB_irrefl] at h
        cases h
    rw [h1, h2]
    rfl

theorem addFrom_split (x : Ent) : ∀ (l : List Ent) (i : Nat), i ≤ l.length → (∀ (j : Nat) (d : Ent), j < i → l[j]? = some d → gtB d x = false) → (∀ (j : Nat) (d : Ent), i ≤ j → l[j]? = some d → gtB d x = true) → addFrom x l false = l.take i ++ x :: l.drop i
  | [], i, hi, _, _ => by simp at hi; subst hi; simp [addFrom]
  | d :: r, 0, _, _, h2 => by
    have := h2 0 d (Nat.le_refl _) rfl
    simp [addFrom, this, addFrom_done]
  | d :: r, i + 1, hi, h1, h2 => by
    have h0 := h1 0 d (by omega) rfl
    have ih := addFrom_split x r i (by simpa using hi) (fun j e hj he => h1 (j + 1) e (by omega) (by simpa using he)) (fun j e hj he => h2 (j + 1) e (by omega) (by simpa using he))
    simp [addFrom, h0, ih]

theorem sorted_pw (l : List Ent) : Sorted l ↔ l.Pairwise (fun d e => ltB d.name e.name = true) := by
  rw [List.pairwise_iff_getElem]
  constructor
  · intro h i j hi hj hij
    exact h i j _ _ hij (List.getElem?_eq_getElem hi) (List.getElem?_eq_getElem hj)
  · intro h i j d e hij hi hj
    obtain ⟨hi', rfl⟩ := List.getElem?_eq_some_iff.1 hi
    obtain ⟨hj', rfl⟩ := List.getElem?_eq_some_iff.1 hj
    exact h i j hi' hj' hij

theorem okFrom_of : ∀ (l : List Ent) (p : Option ByteArray), (∀ e ∈ l, nameB e.name = true ∧ inB e.id 1 15 = true) → l.Pairwise (fun d e => ltB d.name e.name = true) → (∀ q, p = some q → ∀ e ∈ l, ltB q e.name = true) → okFrom p l = true
  | [], p, _, _, _ => rfl
  | x :: r, p, h1, h2, h3 => by
    rw [List.pairwise_cons] at h2
    have ih := okFrom_of r (some x.name) (fun e he => h1 e (List.mem_cons_of_mem _ he)) h2.2 (fun q hq e he => by cases hq; exact h2.1 e he)
    obtain ⟨a, b⟩ := h1 x (List.mem_cons_self ..)
    have hp : prevLt p x.name = true := by
      cases p with
      | none => rfl
      | some q => exact h3 q rfl x (List.mem_cons_self ..)
    simp [okFrom, a, b, hp, ih]

theorem entriesOk_iff (l : List Ent) : entriesOkB l = true ↔ (∀ e ∈ l, nameB e.name = true ∧ inB e.id 1 15 = true) ∧ l.Pairwise (fun d e => ltB d.name e.name = true) ∧ l.length ≤ 12 := by
  constructor
  · intro h
    exact ⟨ok_each h, (sorted_pw l).1 (ok_sorted h), ok_length h⟩
  · rintro ⟨h1, h2, h3⟩
    unfold entriesOkB
    rw [okFrom_of l none h1 h2 (fun q hq => by cases hq)]
    simp [h3]

theorem mem_ins {l : List Ent} {i : Nat} {x e : Ent} : e ∈ l.take i ++ x :: l.drop i ↔ e = x ∨ e ∈ l := by
  have h : e ∈ l ↔ e ∈ l.take i ∨ e ∈ l.drop i := by rw [← List.mem_append, List.take_append_drop]
  rw [h, List.mem_append, List.mem_cons]
  constructor
  · rintro (a | a | a) <;> simp [a]
  · rintro (a | a | a) <;> simp [a]

/-- Where a name is not, an entry of it goes in at the place of the search. -/
theorem add_at {es : List Ent} {x : Ent} {i : Nat} (hok : entriesOkB es = true) (hf : Found es x.name i false) (ha : atOf es x.name = -1) :
    addFrom x es false = es.take i ++ x :: es.drop i ∧ entriesOkB (es.take i ++ x :: es.drop i) = (nameB x.name && (inB x.id 1 15 && decide (es.length < 12))) := by
  obtain ⟨h1, h2, _⟩ := hf
  obtain ⟨hlo, hhi⟩ := h2 (ok_sorted hok)
  have hne : ∀ e ∈ es, e.name ≠ x.name := by
    rcases atOf_spec es x.name with ⟨_, h⟩ | ⟨k, e, h, _, _⟩
    · exact h
    · rw [ha] at h; omega
  have glo : ∀ (j : Nat) (d : Ent), j < i → es[j]? = some d → gtB d x = false := fun j d hj hd => by
    rw [gtB_eq]
    exact ltB_asymm (hlo j d hj hd)
  have ghi : ∀ (j : Nat) (d : Ent), i ≤ j → es[j]? = some d → gtB d x = true := fun j d hj hd => by
    rw [gtB_eq]
    cases h : ltB x.name d.name
    · exact absurd (ltB_tri (hhi j d hj hd) h) (hne d (List.mem_of_getElem? hd))
    · rfl
  refine ⟨addFrom_split x es i h1 glo ghi, ?_⟩
  obtain ⟨ok1, ok2, ok3⟩ := (entriesOk_iff es).1 hok
  have hlen : (es.take i ++ x :: es.drop i).length = es.length + 1 := by simp; omega
  have hpw : (es.take i ++ x :: es.drop i).Pairwise (fun d e => ltB d.name e.name = true) := by
    have hp := ok2
    rw [← List.take_append_drop i es, List.pairwise_append] at hp
    rw [List.pairwise_append, List.pairwise_cons]
    have hb : ∀ a ∈ es.drop i, ltB x.name a.name = true := fun a ha => by
      obtain ⟨j, hj⟩ := List.getElem?_of_mem ha
      rw [List.getElem?_drop] at hj
      rw [← gtB_eq]
      exact ghi _ a (by omega) hj
    have hc : ∀ a ∈ es.take i, ltB a.name x.name = true := fun a ha => by
      obtain ⟨j, hj⟩ := List.getElem?_of_mem ha
      rw [List.getElem?_take] at hj
      split at hj
      · exact hlo _ a (by assumption) hj
      · cases hj
    refine ⟨hp.1, ⟨hb, hp.2.1⟩, fun a hma b hb' => ?_⟩
    rcases List.mem_cons.1 hb' with rfl | hb'
    · exact hc a hma
    · exact hp.2.2 a hma b hb'
  rw [Bool.eq_iff_iff]
  rw [entriesOk_iff]
  simp only [Bool.and_eq_true, decide_eq_true_eq]
  constructor
  · rintro ⟨a, b, c⟩
    have := a x (mem_ins.2 (.inl rfl))
    exact ⟨this.1, this.2, by omega⟩
  · rintro ⟨a, b, c⟩
    refine ⟨fun e he => ?_, hpw, by omega⟩
    rcases mem_ins.1 he with rfl | he
    · exact ⟨a, b⟩
    · exact ok1 e he

/-- The answer, as the program asks for it. -/
theorem add_ask {es : List Ent} {x : Ent} {i : Nat} (hok : entriesOkB es = true) (hf : Found es x.name i false) (ha : atOf es x.name = -1) :
    addB es x = (nameB x.name && (inB x.id 1 15 && decide (es.length < 12))) ∧ (addB es x = true → addL es x = es.take i ++ x :: es.drop i) := by
  obtain ⟨e1, e2⟩ := add_at hok hf ha
  have e3 : addB es x = (nameB x.name && (inB x.id 1 15 && decide (es.length < 12))) := by
    unfold addB
    rw [e1, e2, hok, ha]
    simp
  refine ⟨e3, fun h => ?_⟩
  rw [add_hit h, e1]

end Go.Proofs.YtjalboplilolkaaDoor
