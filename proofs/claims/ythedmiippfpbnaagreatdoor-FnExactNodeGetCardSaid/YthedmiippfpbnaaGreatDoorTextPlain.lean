/- Texts cut at a byte, and the texts of entries and of records, in plain Lean; no program in sight. -/
import Derived.Test.YthedmiippfpbnaaGreatDoorNumPlain
import Derived.Test.YthedmiippfpbnaaGreatDoorEntPlain
import Derived.Test.YthedmiippfpbnaaGreatDoorPathPlain
import Derived.Lib.IndexMore
namespace Go.Proofs.YthedmiippfpbnaaGreatDoor
open Go.RowKit
set_option linter.unusedVariables false
set_option linter.unusedSimpArgs false

/-! Cutting. -/
theorem cut_two {c : UInt8} : ∀ {p q x y : List UInt8}, c ∉ p → c ∉ q → p ++ c :: x = q ++ c :: y → p = q ∧ x = y
  | [], [], x, y, _, _, h => by simp at h; exact ⟨rfl, h⟩
  | [], b :: q, x, y, _, hq, h => by simp at h; exact absurd (h.1 ▸ List.mem_cons_self ..) hq
  | a :: p, [], x, y, hp, _, h => by simp at h; exact absurd (h.1 ▸ List.mem_cons_self ..) hp
  | a :: p, b :: q, x, y, hp, hq, h => by
    simp only [List.cons_append, List.cons.injEq] at h
    obtain ⟨rfl, h⟩ := h
    obtain ⟨rfl, rfl⟩ := cut_two (fun m => hp (List.mem_cons_of_mem _ m)) (fun m => hq (List.mem_cons_of_mem _ m)) h
    exact ⟨rfl, rfl⟩
/-- A text holds a byte or not: at its first place. -/
theorem first_at (c : UInt8) : ∀ s : List UInt8, c ∉ s ∨ ∃ p x, s = p ++ c :: x ∧ c ∉ p
  | [] => .inl (by simp)
  | b :: r => by
    by_cases hb : c = b
    · exact .inr ⟨[], r, by simp [hb], by simp⟩
    · rcases first_at c r with h | ⟨p, x, rfl, hp⟩
      · exact .inl (by simp [hb, h])
      · exact .inr ⟨b :: p, x, rfl, by simp [hb, hp]⟩

theorem dec_lt (u : Nat) : ∀ b ∈ Lib.decDigits u, 48 ≤ b.toNat ∧ b.toNat ≤ 57 := fun b hb => digB_iff.1 (dec_digits u b hb)
theorem dec_free (u : Nat) (c : UInt8) (hc : c.toNat < 48 ∨ 57 < c.toNat) : c ∉ Lib.decDigits u := fun hm => by
  have := dec_lt u c hm
  omega
theorem dec_inj {u v : Nat} (h : Lib.decDigits u = Lib.decDigits v) : u = v := by
  have := congrArg valL h
  rwa [dec_val, dec_val] at this
/-- A number's text, of a number that is not below 0. -/
def decL (n : Int) : List UInt8 := Lib.decDigits n.toNat
def decT (n : Int) : ByteArray := ofL (decL n)
theorem numT_dec {n : Int} (h0 : 0 ≤ n) (h1 : n ≤ 999999999) : numT n = decT n := numT_in h0 h1
theorem decT_data (n : Int) : (decT n).data.toList = decL n := ofL_data _
theorem decL_inj {a b : Int} (h0 : 0 ≤ a) (h1 : 0 ≤ b) (h : decL a = decL b) : a = b := by
  have := dec_inj h
  omega
theorem decL_free {n : Int} {c : UInt8} (hc : c.toNat < 48 ∨ 57 < c.toNat) : c ∉ decL n := dec_free _ c hc
theorem decL_len {n : Int} (h0 : 0 ≤ n) (h1 : n ≤ 999999999) : 1 ≤ (decL n).length ∧ (decL n).length ≤ 9 := ⟨dec_pos _, dec_nine (by omega)⟩
theorem numB_data {s : ByteArray} (h : numB s = true) : s.data.toList = decL (numV s) := by
  have hb := numV_in (s := s)
  conv => lhs; rw [← numB_put h]
  rw [numT_dec hb.1 hb.2, decT_data]
theorem numB_dec {s : ByteArray} {n : Int} (h0 : 0 ≤ n) (h1 : n ≤ 999999999) (h : s.data.toList = decL n) : numB s = true ∧ numV s = n := by
  have e : s = numT n := by
    rw [numT_dec h0 h1]
    exact ofL_ext (by rw [decT_data, h])
  rw [e]
  exact numT_get h0 h1

/-! Entries. -/
def entL (e : Ent) : List UInt8 := e.name.data.toList ++ 61 :: (decL e.id ++ [59])
def entsL : List Ent → List UInt8
  | [] => []
  | e :: r => entL e ++ entsL r
def entsT (l : List Ent) : ByteArray := ofL (entsL l)
theorem entsL_app (a b : List Ent) : entsL (a ++ b) = entsL a ++ entsL b := by
  induction a with
  | nil => rfl
  | cons e r ih => rw [List.cons_append, entsL, entsL, ih, List.append_assoc]
theorem name_low {s : ByteArray} (h : nameB s = true) {c : UInt8} (hc : c.toNat < 97) : c ∉ s.data.toList := fun hm => by
  obtain ⟨k, hk, e⟩ := List.getElem_of_mem hm
  have hk' : k < s.size := by rw [Array.length_toList] at hk; exact hk
  have hx : s[k] = c := by rw [← e]; rfl
  have := nameB_no (s := s) hk' (.inl (by rw [hx]; exact hc))
  rw [h] at this
  cases this
theorem okFrom_each : ∀ (l : List Ent) (p : Option ByteArray), okFrom p l = true → ∀ e ∈ l, nameB e.name = true ∧ inB e.id 1 15 = true
  | [], _, _, e, he => by cases he
  | x :: r, p, h, e, he => by
    simp only [okFrom, Bool.and_eq_true] at h
    rcases List.mem_cons.1 he with rfl | he
    · exact ⟨h.1, h.2.1⟩
    · exact okFrom_each r _ h.2.2.2 e he
theorem ent_ok {l : List Ent} (h : entriesOkB l = true) : (∀ e ∈ l, nameB e.name = true ∧ 1 ≤ e.id ∧ e.id ≤ 15) ∧ l.length ≤ 12 := by
  simp only [entriesOkB, Bool.and_eq_true, decide_eq_true_eq] at h
  have h1 := okFrom_each l none h.1
  exact ⟨fun e he => ⟨(h1 e he).1, (inB_true (h1 e he).2).1, (inB_true (h1 e he).2).2⟩, h.2⟩
theorem entL_len {e : Ent} (h : nameB e.name = true) (h0 : 1 ≤ e.id) (h1 : e.id ≤ 15) : (entL e).length ≤ 8 := by
  have hs := nameB_size h
  have hd := dec_len 1 e.id.toNat (by simp; omega)
  have : e.name.data.toList.length = e.name.size := Array.length_toList
  unfold entL decL
  simp only [List.length_append, List.length_cons, List.length_nil]
  omega
theorem entsL_len : ∀ {l : List Ent}, (∀ e ∈ l, nameB e.name = true ∧ 1 ≤ e.id ∧ e.id ≤ 15) → (entsL l).length ≤ 8 * l.length
  | [], _ => by simp [entsL]
  | e :: r, h => by
    have h1 := h e (List.mem_cons_self ..)
    have h2 := entL_len h1.1 h1.2.1 h1.2.2
    have h3 := entsL_len (fun x hx => h x (List.mem_cons_of_mem _ hx))
    rw [entsL, List.length_append, List.length_cons]
    omega
theorem entsT_size {l : List Ent} (h : entriesOkB l = true) : (entsT l).size ≤ 96 := by
  have := entsL_len (ent_ok h).1
  have := (ent_ok h).2
  rw [entsT, ofL_size]
  omega

/-- What is read so far out of a text: 'out', and 'rest' is left; every list that is the text's begins so. -/
def EntAt' (s : List UInt8) (out : List Ent) (rest : List UInt8) : Prop :=
  entsL out ++ rest = s ∧ ∀ l, entriesOkB l = true → entsL l = s → ∃ m, l = out ++ m ∧ entsL m = rest
/-- The entries that a text is the text of. -/
def EntG (s : ByteArray) (l : List Ent) (b : Bool) : Prop :=
  (b = true ∧ entriesOkB l = true ∧ entsL l = s.data.toList) ∨ (b = false ∧ l = [] ∧ ∀ m, entriesOkB m = true → entsL m ≠ s.data.toList)
theorem entAt_start (s : List UInt8) : EntAt' s [] s := ⟨rfl, fun l _ h => ⟨l, rfl, h⟩⟩
/-- How a text that is one of entries begins. -/
theorem ent_begin {s rest : List UInt8} {out : List Ent} (h : EntAt' s out rest) (hr : rest ≠ []) {l : List Ent} (hl : entriesOkB l = true) (he : entsL l = s) :
    ∃ e m, rest = e.name.data.toList ++ 61 :: (decL e.id ++ 59 :: entsL m) ∧ l = out ++ e :: m ∧ out.length < 12 ∧ nameB e.name = true ∧ 1 ≤ e.id ∧ e.id ≤ 15 := by
  obtain ⟨m, hm, hme⟩ := h.2 l hl he
  cases m with
  | nil => exact absurd hme.symm hr
  | cons e m =>
    have ho := ent_ok hl
    have h1 := ho.1 e (by rw [hm]; simp)
    have h2 := ho.2
    rw [hm] at h2
    simp only [List.length_append, List.length_cons] at h2
    refine ⟨e, m, ?_, hm, by omega, h1.1, h1.2.1, h1.2.2⟩
    rw [← hme, entsL, entL]
    simp
theorem entAt_next {s rest tail : List UInt8} {out : List Ent} {name num : ByteArray} (h : EntAt' s out rest) (hr : rest = name.data.toList ++ 61 :: (num.data.toList ++ 59 :: tail)) (h1 : (61 : UInt8) ∉ name.data.toList) (h2 : (59 : UInt8) ∉ name.data.toList) (hn : numB num = true) :
    EntAt' s (out ++ [⟨name, numV num⟩]) tail := by
  have hd := numB_data hn
  have hv := numV_in (s := num)
  refine ⟨?_, fun l hl he => ?_⟩
  · rw [← h.1, hr, entsL_app, hd]
    simp [entsL, entL]
  · obtain ⟨e, m, e1, e2, _, e4, e5, e6⟩ := ent_begin h (by rw [hr]; simp) hl he
    rw [hr] at e1
    obtain ⟨q1, q2⟩ := cut_two h1 (name_low e4 (by decide)) e1
    have f1 : (59 : UInt8) ∉ num.data.toList := by rw [hd]; exact decL_free (by decide)
    obtain ⟨q3, q4⟩ := cut_two f1 (decL_free (by decide)) q2
    rw [hd] at q3
    have q5 := decL_inj hv.1 (by omega) q3
    have q6 := ofL_ext q1
    refine ⟨m, ?_, q4.symm⟩
    rw [e2, q6, q5]
    simp
theorem entAt_end {s : ByteArray} {out : List Ent} (h : EntAt' s.data.toList out []) : (entriesOkB out = true → EntG s out true) ∧ (entriesOkB out = false → EntG s [] false) := by
  have h1 := h.1
  rw [List.append_nil] at h1
  refine ⟨fun hb => .inl ⟨rfl, hb, h1⟩, fun hb => .inr ⟨rfl, rfl, fun l hl he => ?_⟩⟩
  obtain ⟨m, hm, hme⟩ := h.2 l hl he
  cases m with
  | nil => rw [List.append_nil] at hm; rw [hm, hb] at hl; cases hl
  | cons e m => rw [entsL, entL] at hme; simp at hme
theorem entG_one {s : ByteArray} {l l' : List Ent} {b b' : Bool} (h : EntG s l b) (h' : EntG s l' b') : b = b' ∧ l = l' := by
  rcases h with ⟨rfl, h1, h2⟩ | ⟨rfl, rfl, h1⟩
  · rcases h' with ⟨rfl, h1', h2'⟩ | ⟨rfl, rfl, h1'⟩
    · refine ⟨rfl, ?_⟩
      have key : ∀ (a c : List Ent), (∀ e ∈ a, nameB e.name = true ∧ 1 ≤ e.id ∧ e.id ≤ 15) → (∀ e ∈ c, nameB e.name = true ∧ 1 ≤ e.id ∧ e.id ≤ 15) → entsL a = entsL c → a = c := by
        intro a
        induction a with
        | nil =>
          intro c _ _ he
          cases c with
          | nil => rfl
          | cons e m => simp [entsL, entL] at he
        | cons x a ih =>
          intro c hx hc he
          cases c with
          | nil => simp [entsL, entL] at he
          | cons e m =>
            have x1 := hx x (List.mem_cons_self ..)
            have e1 := hc e (List.mem_cons_self ..)
            simp only [entsL, entL, List.append_assoc, List.cons_append, List.nil_append] at he
            obtain ⟨q1, q2⟩ := cut_two (name_low x1.1 (by decide)) (name_low e1.1 (by decide)) he
            obtain ⟨q3, q4⟩ := cut_two (decL_free (by decide)) (decL_free (by decide)) q2
            have q5 := decL_inj (by omega) (by omega) q3
            have q6 := ofL_ext q1
            have q7 := ih m (fun y hy => hx y (List.mem_cons_of_mem _ hy)) (fun y hy => hc y (List.mem_cons_of_mem _ hy)) q4
            obtain ⟨xn, xi⟩ := x
            obtain ⟨en, ei⟩ := e
            dsimp only at q5 q6
            rw [q5, q6, q7]
      exact key l l' (ent_ok h1).1 (ent_ok h1').1 (h2.trans h2'.symm)
    · exact absurd h2 (h1' l h1)
  · rcases h' with ⟨rfl, h1', h2'⟩ | ⟨rfl, rfl, h1'⟩
    · exact absurd h2' (h1 l' h1')
    · exact ⟨rfl, rfl⟩
theorem entG_put {l : List Ent} (h : entriesOkB l = true) : EntG (entsT l) l true := .inl ⟨rfl, h, by rw [entsT, ofL_data]⟩

/-! Records. -/
def fldL (s : ByteArray) : List UInt8 := decL (s.size : Int) ++ 58 :: s.data.toList
def recL : List ByteArray → List UInt8
  | [] => []
  | s :: r => fldL s ++ recL r
def recT (l : List ByteArray) : ByteArray := ofL (recL l)
def recB (l : List ByteArray) : Bool := decide (l.length ≤ 60) && decide ((recL l).length ≤ 2048)
theorem recB_iff {l : List ByteArray} : recB l = true ↔ l.length ≤ 60 ∧ (recL l).length ≤ 2048 := by simp [recB]
theorem recL_app (a b : List ByteArray) : recL (a ++ b) = recL a ++ recL b := by
  induction a with
  | nil => rfl
  | cons e r ih => rw [List.cons_append, recL, recL, ih, List.append_assoc]
def RecAt (s : List UInt8) (out : List ByteArray) (rest : List UInt8) : Prop :=
  recL out ++ rest = s ∧ ∀ l, recB l = true → recL l = s → ∃ m, l = out ++ m ∧ recL m = rest
def RecG (s : ByteArray) (l : List ByteArray) (b : Bool) : Prop :=
  (b = true ∧ recB l = true ∧ recL l = s.data.toList) ∨ (b = false ∧ l = [] ∧ ∀ m, recB m = true → recL m ≠ s.data.toList)
theorem recAt_start (s : List UInt8) : RecAt s [] s := ⟨rfl, fun l _ h => ⟨l, rfl, h⟩⟩
theorem rec_begin {s rest : List UInt8} {out : List ByteArray} (h : RecAt s out rest) (hr : rest ≠ []) {l : List ByteArray} (hl : recB l = true) (he : recL l = s) :
    ∃ (e : ByteArray) (m : List ByteArray), rest = decL (e.size : Int) ++ 58 :: (e.data.toList ++ recL m) ∧ l = out ++ e :: m ∧ out.length < 60 ∧ e.size ≤ 2048 := by
  obtain ⟨m, hm, hme⟩ := h.2 l hl he
  cases m with
  | nil => exact absurd hme.symm hr
  | cons e m =>
    obtain ⟨h2, h3⟩ := recB_iff.1 hl
    rw [hm] at h2 h3
    simp only [List.length_append, List.length_cons] at h2
    refine ⟨e, m, ?_, hm, by omega, ?_⟩
    · rw [← hme, recL, fldL]
      simp
    · rw [recL_app, recL, fldL] at h3
      simp only [List.length_append, List.length_cons, Array.length_toList] at h3
      have : e.data.size = e.size := rfl
      omega
theorem recAt_next {s rest tail : List UInt8} {out : List ByteArray} {e : ByteArray} (h : RecAt s out rest) (hr : rest = decL (e.size : Int) ++ 58 :: (e.data.toList ++ tail)) : RecAt s (out ++ [e]) tail := by
  refine ⟨?_, fun l hl he => ?_⟩
  · rw [← h.1, hr, recL_app]
    simp [recL, fldL]
  · obtain ⟨x, m, e1, e2, _, _⟩ := rec_begin h (by rw [hr]; simp) hl he
    rw [hr] at e1
    obtain ⟨q1, q2⟩ := cut_two (decL_free (by decide)) (decL_free (by decide)) e1
    have q3 := decL_inj (by omega) (by omega) q1
    have q4 : e.data.toList.length = x.data.toList.length := by
      rw [Array.length_toList, Array.length_toList]
      have a1 : e.data.size = e.size := rfl
      have a2 : x.data.size = x.size := rfl
      omega
    obtain ⟨q5, q6⟩ := List.append_inj q2 q4
    refine ⟨m, ?_, q6.symm⟩
    rw [e2, ofL_ext q5]
    simp
theorem recAt_end {s : ByteArray} {out : List ByteArray} (h : RecAt s.data.toList out []) : (recB out = true → RecG s out true) ∧ (recB out = false → RecG s [] false) := by
  have h1 := h.1
  rw [List.append_nil] at h1
  refine ⟨fun hb => .inl ⟨rfl, hb, h1⟩, fun hb => .inr ⟨rfl, rfl, fun l hl he => ?_⟩⟩
  obtain ⟨m, hm, hme⟩ := h.2 l hl he
  cases m with
  | nil => rw [List.append_nil] at hm; rw [hm, hb] at hl; cases hl
  | cons e m => rw [recL, fldL] at hme; simp at hme
theorem recL_inj : ∀ {a b : List ByteArray}, recL a = recL b → a = b
  | [], [], _ => rfl
  | [], e :: m, h => by simp [recL, fldL] at h
  | x :: a, [], h => by simp [recL, fldL] at h
  | x :: a, e :: m, h => by
    simp only [recL, fldL, List.append_assoc, List.cons_append] at h
    obtain ⟨q1, q2⟩ := cut_two (decL_free (by decide)) (decL_free (by decide)) h
    have q3 := decL_inj (by omega) (by omega) q1
    have q4 : x.data.toList.length = e.data.toList.length := by
      rw [Array.length_toList, Array.length_toList]
      have a1 : e.data.size = e.size := rfl
      have a2 : x.data.size = x.size := rfl
      omega
    obtain ⟨q5, q6⟩ := List.append_inj q2 q4
    rw [ofL_ext q5, recL_inj q6]
theorem recG_one {s : ByteArray} {l l' : List ByteArray} {b b' : Bool} (h : RecG s l b) (h' : RecG s l' b') : b = b' ∧ l = l' := by
  rcases h with ⟨rfl, h1, h2⟩ | ⟨rfl, rfl, h1⟩
  · rcases h' with ⟨rfl, h1', h2'⟩ | ⟨rfl, rfl, h1'⟩
    · exact ⟨rfl, recL_inj (h2.trans h2'.symm)⟩
    · exact absurd h2 (h1' l h1)
  · rcases h' with ⟨rfl, h1', h2'⟩ | ⟨rfl, rfl, h1'⟩
    · exact absurd h2' (h1 l' h1')
    · exact ⟨rfl, rfl⟩

end Go.Proofs.YthedmiippfpbnaaGreatDoor
