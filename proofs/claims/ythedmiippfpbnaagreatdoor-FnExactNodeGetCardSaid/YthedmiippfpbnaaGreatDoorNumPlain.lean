/- Numbers in decimals, in plain Lean: what a number's text is, and which texts are numbers; no program in sight. -/
import Derived.Test.YthedmiippfpbnaaGreatDoorBase
import Derived.Lib.Atoi
import Derived.Lib.ItoaNum
namespace Go.Proofs.YthedmiippfpbnaaGreatDoor
open Go.RowKit
set_option linter.unusedVariables false

def digB (b : UInt8) : Bool := decide (48 ≤ b.toNat ∧ b.toNat ≤ 57)
theorem digB_iff {b : UInt8} : digB b = true ↔ 48 ≤ b.toNat ∧ b.toNat ≤ 57 := decide_eq_true_iff
/-- The number that digits spell. -/
def valA : List UInt8 → Nat → Nat
  | [], n => n
  | b :: r, n => valA r (10 * n + (b.toNat - 48))
def valL (l : List UInt8) : Nat := valA l 0
theorem valA_snoc : ∀ (l : List UInt8) (n : Nat) (b : UInt8), valA (l ++ [b]) n = 10 * valA l n + (b.toNat - 48)
  | [], n, b => rfl
  | a :: l, n, b => valA_snoc l _ b
theorem valL_snoc (l : List UInt8) (b : UInt8) : valL (l ++ [b]) = 10 * valL l + (b.toNat - 48) := valA_snoc l 0 b
theorem valA_lt : ∀ (l : List UInt8) (n : Nat), (∀ b ∈ l, digB b = true) → valA l n < (n + 1) * 10 ^ l.length
  | [], n, _ => by simp [valA]
  | a :: l, n, h => by
    have ha := digB_iff.1 (h a (List.mem_cons_self ..))
    have h1 := valA_lt l (10 * n + (a.toNat - 48)) (fun b hb => h b (List.mem_cons_of_mem _ hb))
    have h2 : (10 * n + (a.toNat - 48) + 1) * 10 ^ l.length ≤ ((n + 1) * 10) * 10 ^ l.length := Nat.mul_le_mul_right _ (by omega)
    rw [valA, List.length_cons, Nat.pow_succ, Nat.mul_comm (10 ^ l.length) 10, ← Nat.mul_assoc]
    exact Nat.lt_of_lt_of_le h1 h2
theorem valL_lt {l : List UInt8} (h : ∀ b ∈ l, digB b = true) : valL l < 10 ^ l.length := by
  have := valA_lt l 0 h
  rw [Nat.zero_add, Nat.one_mul] at this
  exact this
theorem valL_nine {l : List UInt8} (h : ∀ b ∈ l, digB b = true) (hl : l.length ≤ 9) : valL l ≤ 999999999 := by
  have h1 := valL_lt h
  have h2 : 10 ^ l.length ≤ 10 ^ 9 := Nat.pow_le_pow_right (by omega) hl
  have h3 : (10 : Nat) ^ 9 = 1000000000 := by decide
  omega
theorem decFrom_val : ∀ (l : List UInt8) (n : Nat), (∀ b ∈ l, digB b = true) → Lib.decFrom n l = some (valA l n)
  | [], n, _ => rfl
  | a :: l, n, h => by
    have ha := digB_iff.1 (h a (List.mem_cons_self ..))
    have e : Lib.digitVal a = some (a.toNat - 48) := by simp [Lib.digitVal, ha]
    have ih := decFrom_val l (10 * n + (a.toNat - 48)) (fun b hb => h b (List.mem_cons_of_mem _ hb))
    rw [valA, ← ih, Lib.decFrom, e, Nat.mul_comm 10 n]

/-- A number text: digits, nine at most, no nought ahead. -/
def numOk (l : List UInt8) : Bool := l.all digB && (decide (1 ≤ l.length ∧ l.length ≤ 9) && !(decide (1 < l.length) && l.head? == some 48))
theorem numOk_iff {l : List UInt8} : numOk l = true ↔ (∀ b ∈ l, digB b = true) ∧ (1 ≤ l.length ∧ l.length ≤ 9) ∧ (l.length = 1 ∨ l.head? ≠ some 48) := by
  simp only [numOk, Bool.and_eq_true, List.all_eq_true, decide_eq_true_eq, Bool.not_eq_true', Bool.and_eq_false_imp, beq_eq_false_iff_ne]
  constructor
  · rintro ⟨a, b, c⟩
    refine ⟨a, b, ?_⟩
    rcases Nat.lt_or_ge 1 l.length with h | h
    · exact .inr (c h)
    · exact .inl (by omega)
  · rintro ⟨a, b, c⟩
    refine ⟨a, b, fun h => ?_⟩
    rcases c with c | c
    · omega
    · exact c

theorem dec_small {u : Nat} (h : u < 10) : Lib.decDigits u = [UInt8.ofNat (48 + u)] := by rw [Lib.decDigits, dif_pos h]
theorem dec_big {u : Nat} (h : ¬ u < 10) : Lib.decDigits u = Lib.decDigits (u / 10) ++ [UInt8.ofNat (48 + u % 10)] := by rw [Lib.decDigits, dif_neg h]
theorem digit_toNat {d : Nat} (h : d < 10) : (UInt8.ofNat (48 + d)).toNat = 48 + d := by
  rw [UInt8.toNat_ofNat']
  exact Nat.mod_eq_of_lt (by omega)
theorem digit_ofNat {b : UInt8} {d : Nat} (h : b.toNat = 48 + d) : UInt8.ofNat (48 + d) = b := by
  rw [← h]; simp
theorem dec_digits (u : Nat) : ∀ b ∈ Lib.decDigits u, digB b = true := by
  induction u using Nat.strongRecOn with
  | _ u ih =>
    intro b hb
    by_cases h : u < 10
    · rw [dec_small h] at hb
      simp only [List.mem_singleton] at hb
      subst hb
      have := digit_toNat h
      exact digB_iff.2 (by omega)
    · rw [dec_big h] at hb
      rcases List.mem_append.1 hb with hb | hb
      · exact ih (u / 10) (by omega) b hb
      · simp only [List.mem_singleton] at hb
        subst hb
        have := digit_toNat (show u % 10 < 10 by omega)
        exact digB_iff.2 (by omega)
theorem dec_val (u : Nat) : valL (Lib.decDigits u) = u := by
  induction u using Nat.strongRecOn with
  | _ u ih =>
    by_cases h : u < 10
    · rw [dec_small h]
      have := digit_toNat h
      show 10 * 0 + ((UInt8.ofNat (48 + u)).toNat - 48) = u
      omega
    · have := digit_toNat (show u % 10 < 10 by omega)
      rw [dec_big h, valL_snoc, ih (u / 10) (by omega)]
      omega
theorem dec_len : ∀ (k u : Nat), u < 10 ^ (k + 1) → (Lib.decDigits u).length ≤ k + 1
  | 0, u, h => by rw [dec_small (by simpa using h)]; simp
  | k + 1, u, h => by
    by_cases h10 : u < 10
    · rw [dec_small h10]; simp
    · rw [dec_big h10, List.length_append]
      have := dec_len k (u / 10) (by rw [Nat.pow_succ] at h; omega)
      simp
      omega
theorem dec_pos (u : Nat) : 1 ≤ (Lib.decDigits u).length := by
  by_cases h : u < 10
  · rw [dec_small h]; simp
  · rw [dec_big h]; simp
theorem dec_nine {u : Nat} (h : u ≤ 999999999) : (Lib.decDigits u).length ≤ 9 := dec_len 8 u (by
  have : (10 : Nat) ^ (8 + 1) = 1000000000 := by decide
  omega)
theorem dec_head (u : Nat) : 1 ≤ u → (Lib.decDigits u).head? ≠ some 48 := by
  induction u using Nat.strongRecOn with
  | _ u ih =>
    intro h1
    by_cases h : u < 10
    · rw [dec_small h]
      have := digit_toNat h
      intro e
      simp only [List.head?_cons, Option.some.injEq] at e
      rw [e] at this
      simp at this
      omega
    · have hp := dec_pos (u / 10)
      have hi := ih (u / 10) (by omega) (by omega)
      rw [dec_big h]
      cases hd : Lib.decDigits (u / 10) with
      | nil => rw [hd] at hp; simp at hp
      | cons a r => rw [hd] at hi; simpa using hi
theorem numOk_dec {u : Nat} (h : u ≤ 999999999) : numOk (Lib.decDigits u) = true := by
  refine numOk_iff.2 ⟨dec_digits u, ⟨dec_pos u, dec_nine h⟩, ?_⟩
  by_cases h10 : u < 10
  · rw [dec_small h10]; exact .inl rfl
  · exact .inr (dec_head u (by omega))
theorem dec_back : ∀ (n : Nat) (l : List UInt8), l.length = n + 1 → (∀ b ∈ l, digB b = true) → (n = 0 ∨ l.head? ≠ some 48) → Lib.decDigits (valL l) = l ∧ (l.head? ≠ some 48 → 1 ≤ valL l)
  | 0, l, hl, hd, _ => by
    match l, hl with
    | [b], _ =>
      have hb := digB_iff.1 (hd b (by simp))
      have e : valL [b] = b.toNat - 48 := by show 10 * 0 + (b.toNat - 48) = _; omega
      refine ⟨?_, fun h => ?_⟩
      · rw [e, dec_small (by omega), digit_ofNat (b := b) (by omega)]
      · rw [e]
        have : ¬ b.toNat = 48 := fun h' => h (by
          have : b = 48 := UInt8.toNat_inj.1 h'
          rw [this]; rfl)
        omega
  | n + 1, l, hl, hd, hh => by
    have hne : l ≠ [] := by intro e; rw [e] at hl; simp at hl
    have hs : l = l.dropLast ++ [l.getLast hne] := (List.dropLast_concat_getLast hne).symm
    have hm : l.dropLast.length = n + 1 := by rw [List.length_dropLast]; omega
    have hhd : l.head? ≠ some 48 := by
      rcases hh with hh | hh
      · omega
      · exact hh
    have hhm : l.dropLast.head? ≠ some 48 := by
      cases hq : l.dropLast with
      | nil => rw [hq] at hm; simp at hm
      | cons a r =>
        rw [hq] at hs
        rw [hs] at hhd
        simpa using hhd
    obtain ⟨i1, i2⟩ := dec_back n l.dropLast hm (fun b hb => hd b ((List.dropLast_sublist _).subset hb)) (.inr hhm)
    have i3 := i2 hhm
    have hb := digB_iff.1 (hd _ (List.getLast_mem hne))
    have ev : valL l = 10 * valL l.dropLast + ((l.getLast hne).toNat - 48) := by
      conv => lhs; rw [hs]
      exact valL_snoc _ _
    refine ⟨?_, fun _ => by omega⟩
    rw [dec_big (by omega)]
    have q1 : valL l / 10 = valL l.dropLast := by omega
    have q2 : valL l % 10 = (l.getLast hne).toNat - 48 := by omega
    rw [q1, q2, i1, digit_ofNat (b := l.getLast hne) (by omega)]
    exact hs.symm
theorem dec_of_numOk {l : List UInt8} (h : numOk l = true) : Lib.decDigits (valL l) = l := by
  obtain ⟨h1, h2, h3⟩ := numOk_iff.1 h
  refine (dec_back (l.length - 1) l (by omega) h1 ?_).1
  rcases h3 with h3 | h3
  · exact .inl (by omega)
  · exact .inr h3

/-- What a text is as a number; whether it is one; a number's text. -/
def numB (s : ByteArray) : Bool := numOk s.data.toList
def numV (s : ByteArray) : Int := if numB s = true then (valL s.data.toList : Int) else 0
def numT (n : Int) : ByteArray := if inB n 0 999999999 = true then ⟨(Lib.itoa n).toArray⟩ else ⟨#[]⟩
theorem numV_hit {s : ByteArray} (h : numB s = true) : numV s = (valL s.data.toList : Int) := if_pos h
theorem numV_miss {s : ByteArray} (h : numB s = false) : numV s = 0 := if_neg (by simp [h])
theorem numV_in {s : ByteArray} : 0 ≤ numV s ∧ numV s ≤ 999999999 := by
  cases h : numB s
  · rw [numV_miss h]; omega
  · obtain ⟨h1, h2, _⟩ := numOk_iff.1 h
    have := valL_nine h1 h2.2
    rw [numV_hit h]
    omega
theorem itoa_nat {n : Int} (h : 0 ≤ n) : Lib.itoa n = Lib.decDigits n.toNat := by rw [Lib.itoa, if_neg (by omega)]
theorem numT_in {n : Int} (h0 : 0 ≤ n) (h1 : n ≤ 999999999) : numT n = ⟨(Lib.decDigits n.toNat).toArray⟩ := by rw [numT, if_pos (inB_mk h0 h1), itoa_nat h0]
theorem numT_out {n : Int} (h : inB n 0 999999999 = false) : numT n = ⟨#[]⟩ := if_neg (by simp [h])
theorem numT_size (n : Int) : (numT n).size ≤ 9 := by
  cases h : inB n 0 999999999
  · rw [numT_out h]; exact Nat.zero_le _
  · obtain ⟨h0, h1⟩ := inB_true h
    rw [numT_in h0 h1]
    have := dec_nine (u := n.toNat) (by omega)
    simpa [ByteArray.size] using this
theorem numT_get {n : Int} (h0 : 0 ≤ n) (h1 : n ≤ 999999999) : numB (numT n) = true ∧ numV (numT n) = n := by
  have h : numB (numT n) = true := by
    rw [numT_in h0 h1]
    exact numOk_dec (by omega)
  refine ⟨h, ?_⟩
  rw [numV_hit h, numT_in h0 h1]
  show ((valL (Lib.decDigits n.toNat) : Nat) : Int) = n
  rw [dec_val]
  omega
theorem bytes_ext {a b : ByteArray} (h : a.data.toList = b.data.toList) : a = b := by
  cases a; cases b
  simp only [ByteArray.mk.injEq]
  exact Array.toList_inj.1 h
theorem numB_put {s : ByteArray} (h : numB s = true) : numT (numV s) = s := by
  have hb := numV_in (s := s)
  rw [numT_in hb.1 hb.2]
  refine bytes_ext ?_
  show Lib.decDigits (numV s).toNat = _
  rw [numV_hit h, Int.toNat_natCast]
  exact dec_of_numOk h
theorem numB_size {s : ByteArray} (h : numB s = true) : 1 ≤ s.size ∧ s.size ≤ 9 := by
  have := (numOk_iff.1 h).2.1
  rw [Array.length_toList] at this
  exact this
theorem atoi_hit {s : ByteArray} (h : numB s = true) : Lib.atoi s.data.toList = some (numV s) := by
  rw [numV_hit h]
  obtain ⟨h1, h2, _⟩ := numOk_iff.1 h
  cases hl : s.data.toList with
  | nil => rw [hl] at h2; simp at h2
  | cons b r =>
    rw [hl] at h1
    have hb := digB_iff.1 (h1 b (List.mem_cons_self ..))
    have n1 : ¬ b = 45 := fun e => by rw [e] at hb; simp at hb
    have n2 : ¬ b = 43 := fun e => by rw [e] at hb; simp at hb
    have : Lib.decNat (b :: r) = some (valL (b :: r)) := by
      rw [Lib.decNat, if_neg (by simp)]
      exact decFrom_val _ _ h1
    simp [Lib.atoi, n1, n2, this]
theorem atoi_miss {s : ByteArray} (h : numB s = false) {v : Int} (hv : Lib.atoi s.data.toList = some v) : ¬ numT v = s := by
  intro e
  cases hi : inB v 0 999999999
  · rw [numT_out hi] at e
    subst e
    simp [Lib.atoi] at hv
  · obtain ⟨h0, h1⟩ := inB_true hi
    have := (numT_get h0 h1).1
    rw [e, h] at this
    cases this

/-! The reference's reading of a number at the beginning of a text. -/
def leadL (l : List UInt8) : List UInt8 := (l.take 9).takeWhile digB
def zeroB (l : List UInt8) : Bool := decide (1 < (leadL l).length) && l.head? == some 48
def l1N (s : ByteArray) : Int := if zeroB s.data.toList = true then 0 else (valL (leadL s.data.toList) : Int)
def l1K (s : ByteArray) : Nat := if zeroB s.data.toList = true then 1 else (leadL s.data.toList).length
theorem leadL_take {l : List UInt8} {k : Nat} (h9 : k ≤ 9) (hk : k ≤ l.length) (hd : ∀ b ∈ l.take k, digB b = true) (he : k = l.length ∨ k = 9 ∨ ∃ b, l[k]? = some b ∧ digB b = false) : leadL l = l.take k := by
  have e : l.take 9 = l.take k ++ (l.drop k).take (9 - k) := by
    have : l.take 9 = l.take (k + (9 - k)) := by congr 1; omega
    rw [this, List.take_add]
  rw [leadL, e, List.takeWhile_append_of_pos hd]
  have : ((l.drop k).take (9 - k)).takeWhile digB = [] := by
    rcases he with he | he | ⟨b, hb, hn⟩
    · rw [List.drop_of_length_le (by omega)]; simp
    · rw [he]; simp
    · have hlt : k < l.length := by
        rcases Nat.lt_or_ge k l.length with h | h
        · exact h
        · rw [List.getElem?_eq_none h] at hb; cases hb
      rcases Nat.eq_zero_or_pos (9 - k) with h0 | h0
      · rw [h0]; simp
      · obtain ⟨m, hm⟩ : ∃ m, 9 - k = m + 1 := ⟨9 - k - 1, by omega⟩
        have hb' : l[k] = b := by rw [List.getElem?_eq_getElem hlt] at hb; exact Option.some.inj hb
        rw [hm, List.drop_eq_getElem_cons hlt, List.take_succ_cons, hb', List.takeWhile_cons, hn]
        rfl
  rw [this, List.append_nil]
theorem leadL_pre (l : List UInt8) : leadL l <+: l := (List.takeWhile_prefix _).trans (List.take_prefix _ _)
theorem leadL_len (l : List UInt8) : (leadL l).length ≤ 9 ∧ (leadL l).length ≤ l.length := by
  have h1 := (List.takeWhile_prefix (p := digB) (l := l.take 9)).length_le
  have h2 := (leadL_pre l).length_le
  rw [List.length_take] at h1
  exact ⟨by unfold leadL; omega, h2⟩
theorem leadL_dig (l : List UInt8) : ∀ b ∈ leadL l, digB b = true := fun b hb => List.all_eq_true.1 (List.all_takeWhile (p := digB) (l := l.take 9)) b hb
theorem leadL_all {l : List UInt8} (hd : ∀ b ∈ l, digB b = true) (h9 : l.length ≤ 9) : leadL l = l := by
  have := leadL_take (l := l) (k := l.length) h9 (Nat.le_refl _) (by rw [List.take_length]; exact hd) (.inl rfl)
  rw [List.take_length] at this
  exact this
theorem l1_bounds (s : ByteArray) : 0 ≤ l1N s ∧ l1N s ≤ 999999999 ∧ l1K s ≤ 9 ∧ l1K s ≤ s.size := by
  have h1 := leadL_len s.data.toList
  have h2 := valL_nine (leadL_dig s.data.toList) h1.1
  have h3 : s.data.toList.length = s.size := Array.length_toList
  unfold l1N l1K
  split
  · next h =>
    simp only [zeroB, Bool.and_eq_true, decide_eq_true_eq] at h
    omega
  · omega
/-- What the reference reads is all of the text: then, and then alone, it is a number. -/
theorem l1_num (s : ByteArray) : numB s = (decide (¬ l1K s = 0) && decide (l1K s = s.size)) ∧ (numB s = true → numV s = l1N s) := by
  have h1 := leadL_len s.data.toList
  have hsz : s.data.toList.length = s.size := Array.length_toList
  cases hz : zeroB s.data.toList
  · have eK : l1K s = (leadL s.data.toList).length := by rw [l1K, hz]; rfl
    have eN : l1N s = (valL (leadL s.data.toList) : Int) := by rw [l1N, hz]; rfl
    have key : numB s = true ↔ (¬ l1K s = 0 ∧ l1K s = s.size) := by
      constructor
      · intro h
        obtain ⟨a, b, c⟩ := numOk_iff.1 h
        rw [eK, leadL_all a b.2]
        omega
      · rintro ⟨a, b⟩
        rw [eK] at a b
        have e : leadL s.data.toList = s.data.toList := (leadL_pre _).eq_of_length (by omega)
        refine numOk_iff.2 ⟨by rw [← e]; exact leadL_dig _, ⟨by omega, by omega⟩, ?_⟩
        simp only [zeroB, Bool.and_eq_false_imp, decide_eq_true_eq, beq_eq_false_iff_ne] at hz
        rcases Nat.lt_or_ge 1 (leadL s.data.toList).length with h | h
        · exact .inr (hz h)
        · exact .inl (by omega)
    refine ⟨?_, fun h => ?_⟩
    · rw [Bool.eq_iff_iff, key]; simp
    · obtain ⟨a, b, c⟩ := numOk_iff.1 h
      rw [numV_hit h, eN, leadL_all a b.2]
  · have hz' := hz
    simp only [zeroB, Bool.and_eq_true, decide_eq_true_eq, beq_iff_eq] at hz'
    have eK : l1K s = 1 := by rw [l1K, hz]; rfl
    have hf : numB s = false := by
      cases h : numB s
      · rfl
      · obtain ⟨a, b, c⟩ := numOk_iff.1 h
        rcases c with c | c
        · omega
        · exact absurd hz'.2 c
    refine ⟨?_, fun h => by rw [hf] at h; cases h⟩
    rw [hf, eK]
    have : ¬ 1 = s.size := by omega
    simp [this]

end Go.Proofs.YthedmiippfpbnaaGreatDoor
