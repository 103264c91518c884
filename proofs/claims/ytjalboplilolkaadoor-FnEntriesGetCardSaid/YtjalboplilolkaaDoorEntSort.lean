/- Entries in order, in plain Lean: the order of texts; where a name stands; no program in sight. -/
import Derived.Test.YtjalboplilolkaaDoorEntPlain
import Derived.Sort.Walk0
import Derived.Lib.Bytealg
import Derived.Lib.Bytes
namespace Go.Proofs.YtjalboplilolkaaDoor
open Go.RowKit
set_option linter.unusedVariables false

theorem ltB_iff (a b : ByteArray) : ltB a b = true ↔ a.data.toList < b.data.toList := by
  unfold ltB
  rw [bytesLess_eq, Lib.toList_data, Lib.toList_data]
  simp
theorem bytes_ext {a b : ByteArray} (h : a.data.toList = b.data.toList) : a = b := by
  cases a; cases b
  congr 1
  exact Array.ext' h
theorem ltB_irrefl (a : ByteArray) : ltB a a = false := by
  cases h : ltB a a
  · rfl
  · exact absurd ((ltB_iff a a).1 h) (List.lt_irrefl _)
theorem ltB_trans {a b c : ByteArray} (h1 : ltB a b = true) (h2 : ltB b c = true) : ltB a c = true := (ltB_iff a c).2 (List.lt_trans ((ltB_iff a b).1 h1) ((ltB_iff b c).1 h2))
theorem ltB_asymm {a b : ByteArray} (h : ltB a b = true) : ltB b a = false := by
  cases h' : ltB b a
  · rfl
  · exact absurd ((ltB_iff b a).1 h') (List.lt_asymm ((ltB_iff a b).1 h))
theorem ltB_tri {a b : ByteArray} (h1 : ltB a b = false) (h2 : ltB b a = false) : a = b := by
  have n1 : ¬ a.data.toList < b.data.toList := fun h => by rw [(ltB_iff a b).2 h] at h1; cases h1
  have n2 : ¬ b.data.toList < a.data.toList := fun h => by rw [(ltB_iff b a).2 h] at h2; cases h2
  exact bytes_ext (List.le_antisymm (List.not_lt.1 n2) (List.not_lt.1 n1))

/-- What strings.Compare returns. -/
def cmpB (a b : ByteArray) : Int := Lib.compareBytes a.data.toList b.data.toList
theorem compare_neg : ∀ (x y : List UInt8), Lib.compareBytes x y < 0 ↔ Op.bytesLess x y = true
  | [], [] => by simp [Lib.compareBytes, Op.bytesLess]
  | [], _ :: _ => by simp [Lib.compareBytes, Op.bytesLess]
  | _ :: _, [] => by simp [Lib.compareBytes, Op.bytesLess]
  | a :: x, b :: y => by
    have ih := compare_neg x y
    simp only [Lib.compareBytes, Op.bytesLess]
    by_cases h1 : a < b
    · simp [h1]
    · by_cases h2 : b < a
      · have : ¬ a = b := fun e => by subst e; exact absurd h2 h1
        simp [h1, h2, this]
      · have e : a = b := UInt8.le_antisymm (UInt8.not_lt.1 h2) (UInt8.not_lt.1 h1)
        subst e
        simp [h1, ih]
theorem compare_zero : ∀ (x y : List UInt8), Lib.compareBytes x y = 0 ↔ x = y
  | [], [] => by simp [Lib.compareBytes]
  | [], _ :: _ => by simp [Lib.compareBytes]
  | _ :: _, [] => by simp [Lib.compareBytes]
  | a :: x, b :: y => by
    have ih := compare_zero x y
    simp only [Lib.compareBytes]
    by_cases h1 : a < b
    · have : ¬ a = b := fun e => by subst e; exact absurd h1 (UInt8.lt_irrefl _)
      simp [h1, this]
    · by_cases h2 : b < a
      · have : ¬ a = b := fun e => by subst e; exact absurd h2 h1
        simp [h1, h2, this]
      · have e : a = b := UInt8.le_antisymm (UInt8.not_lt.1 h2) (UInt8.not_lt.1 h1)
        subst e
        simp [h1, ih]
theorem cmpB_neg (a b : ByteArray) : cmpB a b < 0 ↔ ltB a b = true := by
  unfold cmpB ltB
  rw [compare_neg, Lib.toList_data, Lib.toList_data]
theorem cmpB_zero (a b : ByteArray) : cmpB a b = 0 ↔ a = b := by
  unfold cmpB
  rw [compare_zero]
  exact ⟨bytes_ext, fun h => by rw [h]⟩
theorem eqL_iff (a b : ByteArray) : (a.toList == b.toList) = true ↔ a = b := by
  rw [beq_iff_eq, Lib.toList_data, Lib.toList_data]
  exact ⟨bytes_ext, fun h => by rw [h]⟩

/-- In order: each name before all names behind it. -/
def Sorted (l : List Ent) : Prop := ∀ (i j : Nat) (d e : Ent), i < j → l[i]? = some d → l[j]? = some e → ltB d.name e.name = true

theorem okFrom_sorted : ∀ (l : List Ent) (p : Option ByteArray), okFrom p l = true → Sorted l ∧ (∀ q, p = some q → ∀ (i : Nat) (e : Ent), l[i]? = some e → ltB q e.name = true) ∧ (∀ e ∈ l, nameB e.name = true ∧ inB e.id 1 15 = true)
  | [], p, _ => ⟨fun i j d e _ h => by simp at h, fun q _ i e h => by simp at h, fun e h => by cases h⟩
  | x :: r, p, h => by
    simp only [okFrom, Bool.and_eq_true] at h
    obtain ⟨h1, h2, h3, h4⟩ := h
    obtain ⟨s, b, m⟩ := okFrom_sorted r (some x.name) h4
    have hb : ∀ (i : Nat) (e : Ent), r[i]? = some e → ltB x.name e.name = true := b x.name rfl
    refine ⟨fun i j d e hij hi hj => ?_, fun q hq i e hi => ?_, fun e he => ?_⟩
    · cases j with
      | zero => omega
      | succ j =>
        cases i with
        | zero =>
          simp at hi
          subst hi
          exact hb j e (by simpa using hj)
        | succ i => exact s i j d e (by omega) (by simpa using hi) (by simpa using hj)
    · subst hq
      cases i with
      | zero =>
        simp at hi
        subst hi
        exact h3
      | succ i => exact ltB_trans h3 (hb i e (by simpa using hi))
    · rcases List.mem_cons.1 he with rfl | he
      · exact ⟨h1, h2⟩
      · exact m e he
theorem ok_sorted {l : List Ent} (h : entriesOkB l = true) : Sorted l := by
  unfold entriesOkB at h
  simp only [Bool.and_eq_true] at h
  exact (okFrom_sorted l none h.1).1
theorem ok_each {l : List Ent} (h : entriesOkB l = true) : ∀ e ∈ l, nameB e.name = true ∧ inB e.id 1 15 = true := by
  unfold entriesOkB at h
  simp only [Bool.and_eq_true] at h
  exact (okFrom_sorted l none h.1).2.2
theorem ok_length {l : List Ent} (h : entriesOkB l = true) : l.length ≤ 12 := by
  unfold entriesOkB at h
  simp only [Bool.and_eq_true, decide_eq_true_eq] at h
  exact h.2

/-- The first place of a name among entries, -1 if it has none. -/
def atFrom (nm : ByteArray) : List Ent → Nat → Int
  | [], _ => -1
  | e :: r, k => if (e.name.toList == nm.toList) = true then (k : Int) else atFrom nm r (k + 1)
def atOf (l : List Ent) (nm : ByteArray) : Int := atFrom nm l 0
theorem atFrom_spec (nm : ByteArray) : ∀ (l : List Ent) (k : Nat), (atFrom nm l k = -1 ∧ ∀ e ∈ l, e.name ≠ nm) ∨ (∃ (i : Nat) (e : Ent), atFrom nm l k = ((k + i : Nat) : Int) ∧ l[i]? = some e ∧ e.name = nm ∧ ∀ (j : Nat) (d : Ent), j < i → l[j]? = some d → d.name ≠ nm)
  | [], k => .inl ⟨rfl, fun e h => by cases h⟩
  | x :: r, k => by
    unfold atFrom
    by_cases hx : (x.name.toList == nm.toList) = true
    · rw [if_pos hx]
      exact .inr ⟨0, x, rfl, rfl, (eqL_iff _ _).1 hx, fun j d hj => absurd hj (by omega)⟩
    · rw [if_neg hx]
      have hne : x.name ≠ nm := fun e => hx ((eqL_iff _ _).2 e)
      rcases atFrom_spec nm r (k + 1) with ⟨h, ha⟩ | ⟨i, e, h, hi, he, hj⟩
      · exact .inl ⟨h, fun e he => by
          rcases List.mem_cons.1 he with rfl | he
          · exact hne
          · exact ha e he⟩
      · refine .inr ⟨i + 1, e, by rw [h]; congr 1; omega, by simpa using hi, he, fun j d hji hd => ?_⟩
        cases j with
        | zero => simp at hd; subst hd; exact hne
        | succ j => exact hj j d (by omega) (by simpa using hd)
theorem atOf_spec (l : List Ent) (nm : ByteArray) : (atOf l nm = -1 ∧ ∀ e ∈ l, e.name ≠ nm) ∨ (∃ (i : Nat) (e : Ent), atOf l nm = (i : Int) ∧ l[i]? = some e ∧ e.name = nm) := by
  rcases atFrom_spec nm l 0 with h | ⟨i, e, h, hi, he, _⟩
  · exact .inl h
  · exact .inr ⟨i, e, by rw [atOf, h]; simp, hi, he⟩

/-- Where a search by halves ends: everything ahead lies before the name, nothing behind does; and whether the name stands there. -/
def Found (l : List Ent) (nm : ByteArray) (i : Nat) (b : Bool) : Prop :=
  i ≤ l.length ∧ (Sorted l → (∀ (j : Nat) (d : Ent), j < i → l[j]? = some d → ltB d.name nm = true) ∧ (∀ (j : Nat) (d : Ent), i ≤ j → l[j]? = some d → ltB d.name nm = false)) ∧ (b = true ↔ ∃ d : Ent, l[i]? = some d ∧ d.name = nm)
theorem found_at {l : List Ent} {nm : ByteArray} {i : Nat} {b : Bool} (h : Found l nm i b) (hs : Sorted l) :
    (b = false ∧ atOf l nm = -1) ∨ (b = true ∧ atOf l nm = (i : Int) ∧ ∃ d : Ent, l[i]? = some d ∧ d.name = nm) := by
  obtain ⟨h1, h2, h3⟩ := h
  obtain ⟨hlo, hhi⟩ := h2 hs
  rcases atOf_spec l nm with ⟨ha, hn⟩ | ⟨k, e, ha, hk, he⟩
  · refine .inl ⟨?_, ha⟩
    cases b
    · rfl
    · obtain ⟨d, hd, hdn⟩ := h3.1 rfl
      exact absurd hdn (hn d (List.mem_of_getElem? hd))
  · have hki : k = i := by
      rcases Nat.lt_trichotomy k i with hlt | heq | hgt
      · have := hlo k e hlt hk
        rw [he, ltB_irrefl] at this
        cases this
      · exact heq
      · have hil : i < l.length := by
          rcases Nat.lt_or_ge k l.length with h' | h'
          · omega
          · rw [List.getElem?_eq_none h'] at hk; cases hk
        have hd : l[i]? = some l[i] := List.getElem?_eq_getElem hil
        have h5 := hs i k _ _ hgt hd hk
        rw [he, hhi i _ (Nat.le_refl _) hd] at h5
        cases h5
    subst hki
    exact .inr ⟨h3.2 ⟨e, hk, he⟩, ha, e, hk, he⟩

end Go.Proofs.YtjalboplilolkaaDoor
