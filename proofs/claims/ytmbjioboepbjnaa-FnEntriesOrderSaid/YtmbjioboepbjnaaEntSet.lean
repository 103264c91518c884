/- Lists of entries as sets: what finding, adding and taking out do, in plain Lean. -/
import Derived.Test.YtmbjioboepbjnaaEntAddLaw
import Derived.Test.YtmbjioboepbjnaaEntFind
import Derived.Test.YtmbjioboepbjnaaEntLess2
namespace Go.Proofs.Ytmbjioboepbjnaa
open Go.RowKit
set_option linter.unusedVariables false

theorem ok_pw {l : List Ent} (h : entriesOkB l = true) : l.Pairwise (fun d e => ltB d.name e.name = true) := ((entriesOk_iff l).1 h).2.1
theorem pw_inj : ∀ {l : List Ent}, l.Pairwise (fun d e => ltB d.name e.name = true) → ∀ {d e : Ent}, d ∈ l → e ∈ l → d.name = e.name → d = e
  | [], _, d, e, hd, _, _ => by cases hd
  | x :: r, h, d, e, hd, he, hn => by
    rw [List.pairwise_cons] at h
    rcases List.mem_cons.1 hd with hd' | hd'
    · rcases List.mem_cons.1 he with he' | he'
      · rw [hd', he']
      · have := h.1 e he'
        rw [← hd', hn, ltB_irrefl] at this
        cases this
    · rcases List.mem_cons.1 he with he' | he'
      · have := h.1 d hd'
        rw [← he', hn, ltB_irrefl] at this
        cases this
      · exact pw_inj h.2 hd' he' hn
theorem pw_ext : ∀ {l m : List Ent}, l.Pairwise (fun d e => ltB d.name e.name = true) → m.Pairwise (fun d e => ltB d.name e.name = true) → (∀ e, e ∈ l ↔ e ∈ m) → l = m
  | [], [], _, _, _ => rfl
  | [], b :: m, _, _, h => by have := (h b).2 (List.mem_cons_self ..); cases this
  | a :: l, [], _, _, h => by have := (h a).1 (List.mem_cons_self ..); cases this
  | a :: l, b :: m, hl, hm, h => by
    have hl' := hl
    have hm' := hm
    rw [List.pairwise_cons] at hl hm
    have hab : a = b := by
      rcases List.mem_cons.1 ((h a).1 (List.mem_cons_self ..)) with e | ha
      · exact e
      · rcases List.mem_cons.1 ((h b).2 (List.mem_cons_self ..)) with e | hb
        · exact e.symm
        · have h1 := hm.1 a ha
          have h2 := hl.1 b hb
          rw [ltB_asymm h1] at h2
          cases h2
    subst hab
    congr 1
    refine pw_ext hl.2 hm.2 (fun e => ⟨fun he => ?_, fun he => ?_⟩)
    · rcases List.mem_cons.1 ((h e).1 (List.mem_cons_of_mem _ he)) with rfl | h'
      · have := hl.1 e he
        rw [ltB_irrefl] at this
        cases this
      · exact h'
    · rcases List.mem_cons.1 ((h e).2 (List.mem_cons_of_mem _ he)) with rfl | h'
      · have := hm.1 e he
        rw [ltB_irrefl] at this
        cases this
      · exact h'
theorem ok_ext {l m : List Ent} (hl : entriesOkB l = true) (hm : entriesOkB m = true) (h : ∀ e, e ∈ l ↔ e ∈ m) : l = m := pw_ext (ok_pw hl) (ok_pw hm) h

theorem find_mem {l : List Ent} {e : Ent} (h : entriesOkB l = true) (he : e ∈ l) : findOf l e.name = e.id := by
  rcases atOf_spec l e.name with ⟨_, hn⟩ | ⟨i, d, ha, hi, hd⟩
  · exact absurd rfl (hn e he)
  · have := pw_inj (ok_pw h) (List.mem_of_getElem? hi) he hd
    subst this
    exact findOf_hit h ha hi
theorem find_no {l : List Ent} {n : ByteArray} (h : ∀ e ∈ l, e.name ≠ n) : findOf l n = -1 := by
  rcases atOf_spec l n with ⟨ha, _⟩ | ⟨i, d, ha, hi, hd⟩
  · exact findOf_miss ha
  · exact absurd hd (h d (List.mem_of_getElem? hi))
theorem find_some {l : List Ent} {n : ByteArray} (h : 0 ≤ findOf l n) : entriesOkB l = true ∧ (⟨n, findOf l n⟩ : Ent) ∈ l := by
  cases hok : entriesOkB l
  · rw [findOf_bad hok] at h; omega
  · rcases atOf_spec l n with ⟨ha, _⟩ | ⟨i, d, ha, hi, rfl⟩
    · rw [findOf_miss ha] at h; omega
    · rw [findOf_hit hok ha hi]
      exact ⟨rfl, List.mem_of_getElem? hi⟩

theorem mem_addFrom (x : Ent) : ∀ (l : List Ent) (e : Ent), e ∈ addFrom x l false ↔ e = x ∨ e ∈ l
  | [], e => by simp [addFrom]
  | d :: r, e => by
    have ih := mem_addFrom x r e
    have h2 := addFrom_done x r
    unfold addFrom
    rw [h2]
    split
    · simp
    · rw [List.mem_cons, ih, List.mem_cons]
      constructor
      · rintro (a | a | a) <;> simp [a]
      · rintro (a | a | a) <;> simp [a]
theorem len_addFrom (x : Ent) : ∀ (l : List Ent), (addFrom x l false).length = l.length + 1
  | [] => rfl
  | d :: r => by
    have ih := len_addFrom x r
    have h2 := addFrom_done x r
    unfold addFrom
    rw [h2]
    split
    · simp
    · simp [ih]
theorem pw_addFrom (x : Ent) : ∀ (l : List Ent), l.Pairwise (fun d e => ltB d.name e.name = true) → (∀ e ∈ l, e.name ≠ x.name) → (addFrom x l false).Pairwise (fun d e => ltB d.name e.name = true)
  | [], _, _ => by simp [addFrom]
  | d :: r, h, hn => by
    rw [List.pairwise_cons] at h
    have ih := pw_addFrom x r h.2 (fun e he => hn e (List.mem_cons_of_mem _ he))
    have h2 := addFrom_done x r
    unfold addFrom
    rw [h2]
    split
    · next hg =>
      rw [gtB_eq] at hg
      rw [List.pairwise_cons, List.pairwise_cons]
      refine ⟨fun e he => ?_, h⟩
      rcases List.mem_cons.1 he with rfl | he
      · exact hg
      · exact ltB_trans hg (h.1 e he)
    · next hg =>
      rw [gtB_eq] at hg
      rw [List.pairwise_cons]
      refine ⟨fun e he => ?_, ih⟩
      rcases (mem_addFrom x r e).1 he with rfl | he
      · cases hlt : ltB d.name e.name
        · exact absurd (ltB_tri hlt (by simpa using hg)) (hn d (List.mem_cons_self ..))
        · rfl
      · exact h.1 e he

theorem add_iff {es : List Ent} {x : Ent} : addB es x = true ↔ entriesOkB es = true ∧ nameB x.name = true ∧ inB x.id 1 15 = true ∧ (∀ e ∈ es, e.name ≠ x.name) ∧ es.length < 12 := by
  unfold addB
  simp only [Bool.and_eq_true, decide_eq_true_eq]
  constructor
  · rintro ⟨h1, h2, h3⟩
    obtain ⟨a, b, c⟩ := (entriesOk_iff _).1 h3
    rw [len_addFrom] at c
    have := a x ((mem_addFrom x es x).2 (.inl rfl))
    refine ⟨h1, this.1, this.2, ?_, by omega⟩
    rcases atOf_spec es x.name with ⟨_, hn⟩ | ⟨i, d, ha, _, _⟩
    · exact hn
    · omega
  · rintro ⟨h1, h2, h3, h4, h5⟩
    have ha : atOf es x.name < 0 := by
      rcases atOf_spec es x.name with ⟨ha, _⟩ | ⟨i, d, ha, hi, hd⟩
      · omega
      · exact absurd hd (h4 d (List.mem_of_getElem? hi))
    refine ⟨h1, ha, (entriesOk_iff _).2 ⟨fun e he => ?_, pw_addFrom x es (ok_pw h1) h4, by rw [len_addFrom]; omega⟩⟩
    rcases (mem_addFrom x es e).1 he with rfl | he
    · exact ⟨h2, h3⟩
    · exact ok_each h1 e he
theorem add_true {es : List Ent} {x : Ent} (h : addB es x = true) : entriesOkB (addL es x) = true ∧ (∀ e, e ∈ addL es x ↔ e = x ∨ e ∈ es) ∧ (addL es x).length = es.length + 1 := by
  rw [add_hit h]
  refine ⟨?_, mem_addFrom x es, len_addFrom x es⟩
  unfold addB at h
  simp only [Bool.and_eq_true] at h
  exact h.2.2

theorem less_iff {es : List Ent} {n : ByteArray} : lessB es n = true ↔ entriesOkB es = true ∧ ∃ e ∈ es, e.name = n := by
  unfold lessB
  simp only [Bool.and_eq_true, decide_eq_true_eq]
  refine and_congr_right (fun hok => ⟨fun h => ?_, fun ⟨e, he, hn⟩ => ?_⟩)
  · rcases atOf_spec es n with ⟨ha, _⟩ | ⟨i, d, _, hi, hd⟩
    · omega
    · exact ⟨d, List.mem_of_getElem? hi, hd⟩
  · rcases atOf_spec es n with ⟨_, hn'⟩ | ⟨i, d, ha, hi, hd⟩
    · exact absurd hn (hn' e he)
    · omega
theorem less_true {es : List Ent} {n : ByteArray} (h : lessB es n = true) : entriesOkB (lessL es n) = true ∧ (∀ e, e ∈ lessL es n ↔ e ∈ es ∧ e.name ≠ n) ∧ (lessL es n).length + 1 = es.length := by
  obtain ⟨hok, _⟩ := less_iff.1 h
  rcases atOf_spec es n with ⟨ha, _⟩ | ⟨i, d, ha, hi, rfl⟩
  · unfold lessB at h
    simp only [Bool.and_eq_true, decide_eq_true_eq] at h
    omega
  · rw [(less_hit hok ha).2]
    have hlt : i < es.length := by
      rcases Nat.lt_or_ge i es.length with h' | h'
      · exact h'
      · rw [List.getElem?_eq_none h'] at hi; cases hi
    have hsplit : es = es.take i ++ d :: es.drop (i + 1) := by
      conv => lhs; rw [← List.take_append_drop i es]
      congr 1
      rw [List.drop_eq_getElem_cons hlt]
      congr 1
      rw [List.getElem?_eq_getElem hlt] at hi
      exact Option.some.inj hi
    have hpw := ok_pw hok
    have hmem : ∀ e, e ∈ es.take i ++ es.drop (i + 1) ↔ e ∈ es ∧ e.name ≠ d.name := fun e => by
      have hp := hpw
      rw [hsplit, List.pairwise_append, List.pairwise_cons] at hp
      constructor
      · intro he
        refine ⟨?_, ?_⟩
        · rw [hsplit]
          rcases List.mem_append.1 he with he | he <;> simp [he]
        · intro hn
          rcases List.mem_append.1 he with he | he
          · have := hp.2.2 e he d (List.mem_cons_self ..)
            rw [hn, ltB_irrefl] at this
            cases this
          · have := hp.2.1.1 e he
            rw [hn, ltB_irrefl] at this
            cases this
      · rintro ⟨he, hn⟩
        rw [hsplit] at he
        rcases List.mem_append.1 he with he | he
        · exact List.mem_append.2 (.inl he)
        · rcases List.mem_cons.1 he with rfl | he
          · exact absurd rfl hn
          · exact List.mem_append.2 (.inr he)
    refine ⟨(entriesOk_iff _).2 ⟨fun e he => ok_each hok e ((hmem e).1 he).1, ?_, ?_⟩, hmem, ?_⟩
    · have hp := hpw
      rw [hsplit, List.pairwise_append, List.pairwise_cons] at hp
      rw [List.pairwise_append]
      exact ⟨hp.1, hp.2.1.2, fun a ha b hb => hp.2.2 a ha b (List.mem_cons_of_mem _ hb)⟩
    · have := ok_length hok
      simp
      omega
    · simp
      omega

/-- What is found can be taken out and put in again. -/
theorem find_law {es : List Ent} {n : ByteArray} (h : 0 ≤ findOf es n) :
    lessB es n = true ∧ addB (lessL es n) ⟨n, findOf es n⟩ = true ∧ addL (lessL es n) ⟨n, findOf es n⟩ = es ∧ findOf (lessL es n) n = -1 := by
  obtain ⟨hok, hm⟩ := find_some h
  have hl : lessB es n = true := less_iff.2 ⟨hok, _, hm, rfl⟩
  obtain ⟨l1, l2, l3⟩ := less_true hl
  have he := ok_each hok _ hm
  have ha : addB (lessL es n) ⟨n, findOf es n⟩ = true := add_iff.2 ⟨l1, he.1, he.2, fun e he => ((l2 e).1 he).2, by have := ok_length hok; omega⟩
  obtain ⟨a1, a2, _⟩ := add_true ha
  refine ⟨hl, ha, ok_ext a1 hok (fun e => ?_), find_no (fun e he => ((l2 e).1 he).2)⟩
  rw [a2, l2]
  constructor
  · rintro (rfl | he)
    · exact hm
    · exact he.1
  · intro he
    by_cases hn : e.name = n
    · exact .inl (pw_inj (ok_pw hok) he hm hn)
    · exact .inr ⟨he, hn⟩

/-- What is taken out is not found. -/
theorem less_law {es : List Ent} {n : ByteArray} (h : lessB es n = true) :
    (∀ e ∈ es, e.name ≠ n → findOf (lessL es n) e.name = e.id) ∧ findOf (lessL es n) n = -1 ∧ (lessL es n).length + 1 = es.length := by
  obtain ⟨l1, l2, l3⟩ := less_true h
  exact ⟨fun e he hn => find_mem l1 ((l2 e).2 ⟨he, hn⟩), find_no (fun e he => ((l2 e).1 he).2), l3⟩

/-- What is put in is found. -/
theorem add_law {es : List Ent} {x : Ent} (h : addB es x = true) :
    (∀ e ∈ es, findOf (addL es x) e.name = e.id) ∧ lessB (addL es x) x.name = true ∧ lessL (addL es x) x.name = es ∧ findOf (addL es x) x.name = x.id ∧ entriesOkB (addL es x) = true := by
  obtain ⟨a1, a2, a3⟩ := add_true h
  obtain ⟨b1, b2, b3, b4, b5⟩ := add_iff.1 h
  have hx : x ∈ addL es x := (a2 x).2 (.inl rfl)
  have hl : lessB (addL es x) x.name = true := less_iff.2 ⟨a1, x, hx, rfl⟩
  obtain ⟨l1, l2, l3⟩ := less_true hl
  refine ⟨fun e he => find_mem a1 ((a2 e).2 (.inr he)), hl, ok_ext l1 b1 (fun e => ?_), find_mem a1 hx, a1⟩
  rw [l2, a2]
  constructor
  · rintro ⟨rfl | he, hn⟩
    · exact absurd rfl hn
    · exact he
  · exact fun he => ⟨.inr he, b4 e he⟩

/-- Entries may be put in in any order. -/
theorem order_law {es : List Ent} {a b : Ent} (ha : addB es a = true) (hb : addB es b = true) :
    addB (addL es a) b = addB (addL es b) a ∧ addL (addL es a) b = addL (addL es b) a := by
  obtain ⟨a1, a2, a3⟩ := add_true ha
  obtain ⟨b1, b2, b3⟩ := add_true hb
  obtain ⟨p1, p2, p3, p4, p5⟩ := add_iff.1 ha
  obtain ⟨q1, q2, q3, q4, q5⟩ := add_iff.1 hb
  have e1 : addB (addL es a) b = true ↔ a.name ≠ b.name ∧ es.length + 1 < 12 := by
    rw [add_iff]
    constructor
    · rintro ⟨_, _, _, h, hl⟩
      exact ⟨h a ((a2 a).2 (.inl rfl)), by omega⟩
    · rintro ⟨h, hl⟩
      refine ⟨a1, q2, q3, fun e he => ?_, by omega⟩
      rcases (a2 e).1 he with rfl | he
      · exact h
      · exact q4 e he
  have e2 : addB (addL es b) a = true ↔ a.name ≠ b.name ∧ es.length + 1 < 12 := by
    rw [add_iff]
    constructor
    · rintro ⟨_, _, _, h, hl⟩
      exact ⟨fun e => h b ((b2 b).2 (.inl rfl)) e.symm, by omega⟩
    · rintro ⟨h, hl⟩
      refine ⟨b1, p2, p3, fun e he => ?_, by omega⟩
      rcases (b2 e).1 he with rfl | he
      · exact fun e => h e.symm
      · exact p4 e he
  have e3 : addB (addL es a) b = addB (addL es b) a := by rw [Bool.eq_iff_iff, e1, e2]
  refine ⟨e3, ?_⟩
  cases h : addB (addL es a) b
  · rw [add_bad h, add_bad (e3.symm.trans h)]
  · obtain ⟨c1, c2, _⟩ := add_true h
    obtain ⟨d1, d2, _⟩ := add_true (e3.symm.trans h)
    refine ok_ext c1 d1 (fun e => ?_)
    rw [c2, d2, a2, b2]
    constructor
    · rintro (h | h | h) <;> simp [h]
    · rintro (h | h | h) <;> simp [h]

end Go.Proofs.Ytmbjioboepbjnaa
