/- Small contracts that many functions of this seat lean on: the two range tests. -/
import Derived.Test.YtafadedacbjioaaGreatDoorChecked
import Derived.WalkKit
import Derived.WalkLawsBesides
import Derived.WalkSpells
import Derived.BigQuiet
import Derived.Deep.QuietTactic
import Derived.Deep.DeepFit
import Derived.Deep.DeepMust
import Derived.Lib.Hide
import Derived.Outline
import Derived.KernelRfl
import Derived.Lib.Atoi
import Derived.Lib.ItoaNum
import Derived.Below
import Derived.Laws.OwnMore
import Derived.Deep.Draws
import Derived.Lib.QuietBelow
import Derived.Laws.RangeString
import Derived.Shelf.GgClosure.StringsRunes
import Derived.OwnWalk
import Derived.Lib.SplitLaws
import Derived.Lib.Join
import Derived.Lib.IndexMore
import Derived.Lib.Bytes
import Derived.Laws.IdiomStrings
import Derived.Test.YtafadedacbjioaaGreatDoorShelf
import Derived.Lib.LaidTab
import Derived.Deep.DrawnRows
import Derived.Lib.AppendIntMem
import Derived.Maps.AppendAt
import Derived.Deep.AppendLies
import Derived.Deep.RegionLaw
import Derived.RegionTactic
import Derived.Test.YtafadedacbjioaaGreatDoorRows
import Derived.ProofKit
import Derived.OpenShut
import Derived.ChangeOld
import Derived.Laws.ResultCell
import Derived.SliceStrings
import Derived.ChangeSlices
import Derived.Lib.UnsafeStr
import Derived.Deep.RegionHeld3
namespace Go.Proofs.YtafadedacbjioaaGreatDoor
open Go.RowKit

/-- A number lies in a range. -/
def inB (n lo hi : Int) : Bool := decide (lo ≤ n) && decide (n ≤ hi)
theorem inB_true {n lo hi : Int} (h : inB n lo hi = true) : lo ≤ n ∧ n ≤ hi := by simpa [inB] using h
theorem inB_false {n lo hi : Int} (h : inB n lo hi = false) : n < lo ∨ hi < n := by
  unfold inB at h
  by_cases h1 : lo ≤ n
  · by_cases h2 : n ≤ hi
    · simp [h1, h2] at h
    · omega
  · omega
theorem inB_mk {n lo hi : Int} (h1 : lo ≤ n) (h2 : n ≤ hi) : inB n lo hi = true := by simp [inB, h1, h2]
theorem inB_no {n lo hi : Int} (h : n < lo ∨ hi < n) : inB n lo hi = false := by
  unfold inB
  rcases h with h | h
  · have : ¬ lo ≤ n := by omega
    simp [this]
  · have : ¬ n ≤ hi := by omega
    simp [this]

theorem ret_bool {a b : Bool} (h : a = b) : Ending.returned (.bool a) = Ending.returned (.bool b) := by rw [h]
theorem ret_int {k : IntKind} {a b : Int} (h : a = b) : Ending.returned (.int k a) = Ending.returned (.int k b) := by rw [h]
theorem ret_str {a b : ByteArray} (h : a = b) : Ending.returned (.string a) = Ending.returned (.string b) := by rw [h]
/-- A callee that leaves the world alone, met inside a region that draws its order. -/
theorem quiet_same {P : Program} {f : FuncId} {args : Array Value} {w : World} {n : Nat} {v : Value}
    (h : Calls P f args (w.drewN n) fun e w' => e = .returned v ∧ w.drewN n = w') : Calls P f args (w.drewN n) fun e w'' => e = .returned v ∧ ∃ m, w'' = w.drewN m :=
  h.mono fun _ _ ⟨he, hm⟩ => ⟨he, n, hm.symm⟩

theorem within_any (n lo hi : Int) (w : World) :
    Calls Tryz.prog 56 #[.int .i64 n, .int .i64 lo, .int .i64 hi] w fun e w' => e = .returned (.bool (inB n lo hi)) ∧ w = w' := by
  by_cases h1 : lo ≤ n <;> by_cases h2 : n ≤ hi
  all_goals
    go_enter Tryz.func56, Tryz.ntmps56
    go_wp2
    go_ret
    exact ⟨by simp [inB, h1, h2], rfl⟩

theorem l6In_any (n lo hi : Int) (w : World) :
    Calls Tryz.prog 54 #[.int .i64 n, .int .i64 lo, .int .i64 hi] w fun e w' => e = .returned (.bool (inB n lo hi)) ∧ w = w' := by
  by_cases h1 : lo ≤ n <;> by_cases h2 : n ≤ hi
  all_goals
    go_enter Tryz.func54, Tryz.ntmps54
    go_wp2
    go_ret
    exact ⟨by simp [inB, h1, h2], rfl⟩

end Go.Proofs.YtafadedacbjioaaGreatDoor

/- Numbers in decimals, in plain Lean: what a number's text is, and which texts are numbers; no program in sight. -/
namespace Go.Proofs.YtafadedacbjioaaGreatDoor
open Go.RowKit
set_option linter.unusedVariables false

def digB (b : UInt8) : Bool := decide (48 ≤ b.toNat ∧ b.toNat ≤ 57)
theorem digB_iff {b : UInt8} : digB b = true ↔ 48 ≤ b.toNat ∧ b.toNat ≤ 57 := decide_eq_true_iff
/-- The number that digits spell. -/
def valA : List UInt8 → Nat → Nat
  | [], n => n
  | b :: r, n => valA r (10 * n + (b.toNat - 48))
def valL (l : List UInt8) : Nat := valA l 0
theorem valA_snoc : ∀ (l : List UInt8) (n : Nat) (b : UInt8), valA (l ++ [b]) n = 10 * valA l n + (b.toNat - 48)
  | [], n, b => rfl
  | a :: l, n, b => valA_snoc l _ b
theorem valL_snoc (l : List UInt8) (b : UInt8) : valL (l ++ [b]) = 10 * valL l + (b.toNat - 48) := valA_snoc l 0 b
theorem valA_lt : ∀ (l : List UInt8) (n : Nat), (∀ b ∈ l, digB b = true) → valA l n < (n + 1) * 10 ^ l.length
  | [], n, _ => by simp [valA]
  | a :: l, n, h => by
    have ha := digB_iff.1 (h a (List.mem_cons_self ..))
    have h1 := valA_lt l (10 * n + (a.toNat - 48)) (fun b hb => h b (List.mem_cons_of_mem _ hb))
    have h2 : (10 * n + (a.toNat - 48) + 1) * 10 ^ l.length ≤ ((n + 1) * 10) * 10 ^ l.length := Nat.mul_le_mul_right _ (by omega)
    rw [valA, List.length_cons, Nat.pow_succ, Nat.mul_comm (10 ^ l.length) 10, ← Nat.mul_assoc]
    exact Nat.lt_of_lt_of_le h1 h2
theorem valL_lt {l : List UInt8} (h : ∀ b ∈ l, digB b = true) : valL l < 10 ^ l.length := by
  have := valA_lt l 0 h
  rw [Nat.zero_add, Nat.one_mul] at this
  exact this
theorem valL_nine {l : List UInt8} (h : ∀ b ∈ l, digB b = true) (hl : l.length ≤ 9) : valL l ≤ 999999999 := by
  have h1 := valL_lt h
  have h2 : 10 ^ l.length ≤ 10 ^ 9 := Nat.pow_le_pow_right (by omega) hl
  have h3 : (10 : Nat) ^ 9 = 1000000000 := by decide
  omega
theorem decFrom_val : ∀ (l : List UInt8) (n : Nat), (∀ b ∈ l, digB b = true) → Lib.decFrom n l = some (valA l n)
  | [], n, _ => rfl
  | a :: l, n, h => by
    have ha := digB_iff.1 (h a (List.mem_cons_self ..))
    have e : Lib.digitVal a = some (a.toNat - 48) := by simp [Lib.digitVal, ha]
    have ih := decFrom_val l (10 * n + (a.toNat - 48)) (fun b hb => h b (List.mem_cons_of_mem _ hb))
    rw [valA, ← ih, Lib.decFrom, e, Nat.mul_comm 10 n]

/-- A number text: digits, nine at most, no nought ahead. -/
def numOk (l : List UInt8) : Bool := l.all digB && (decide (1 ≤ l.length ∧ l.length ≤ 9) && !(decide (1 < l.length) && l.head? == some 48))
theorem numOk_iff {l : List UInt8} : numOk l = true ↔ (∀ b ∈ l, digB b = true) ∧ (1 ≤ l.length ∧ l.length ≤ 9) ∧ (l.length = 1 ∨ l.head? ≠ some 48) := by
  simp only [numOk, Bool.and_eq_true, List.all_eq_true, decide_eq_true_eq, Bool.not_eq_true', Bool.and_eq_false_imp, beq_eq_false_iff_ne]
  constructor
  · rintro ⟨a, b, c⟩
    refine ⟨a, b, ?_⟩
    rcases Nat.lt_or_ge 1 l.length with h | h
    · exact .inr (c h)
    · exact .inl (by omega)
  · rintro ⟨a, b, c⟩
    refine ⟨a, b, fun h => ?_⟩
    rcases c with c | c
    · omega
    · exact c

theorem dec_small {u : Nat} (h : u < 10) : Lib.decDigits u = [UInt8.ofNat (48 + u)] := by rw [Lib.decDigits, dif_pos h]
theorem dec_big {u : Nat} (h : ¬ u < 10) : Lib.decDigits u = Lib.decDigits (u / 10) ++ [UInt8.ofNat (48 + u % 10)] := by rw [Lib.decDigits, dif_neg h]
theorem digit_toNat {d : Nat} (h : d < 10) : (UInt8.ofNat (48 + d)).toNat = 48 + d := by
  rw [UInt8.toNat_ofNat']
  exact Nat.mod_eq_of_lt (by omega)
theorem digit_ofNat {b : UInt8} {d : Nat} (h : b.toNat = 48 + d) : UInt8.ofNat (48 + d) = b := by
  rw [← h]; simp
theorem dec_digits (u : Nat) : ∀ b ∈ Lib.decDigits u, digB b = true := by
  induction u using Nat.strongRecOn with
  | _ u ih =>
    intro b hb
    by_cases h : u < 10
    · rw [dec_small h] at hb
      simp only [List.mem_singleton] at hb
      subst hb
      have := digit_toNat h
      exact digB_iff.2 (by omega)
    · rw [dec_big h] at hb
      rcases List.mem_append.1 hb with hb | hb
      · exact ih (u / 10) (by omega) b hb
      · simp only [List.mem_singleton] at hb
        subst hb
        have := digit_toNat (show u % 10 < 10 by omega)
        exact digB_iff.2 (by omega)
theorem dec_val (u : Nat) : valL (Lib.decDigits u) = u := by
  induction u using Nat.strongRecOn with
  | _ u ih =>
    by_cases h : u < 10
    · rw [dec_small h]
      have := digit_toNat h
      show 10 * 0 + ((UInt8.ofNat (48 + u)).toNat - 48) = u
      omega
    · have := digit_toNat (show u % 10 < 10 by omega)
      rw [dec_big h, valL_snoc, ih (u / 10) (by omega)]
      omega
theorem dec_len : ∀ (k u : Nat), u < 10 ^ (k + 1) → (Lib.decDigits u).length ≤ k + 1
  | 0, u, h => by rw [dec_small (by simpa using h)]; simp
  | k + 1, u, h => by
    by_cases h10 : u < 10
    · rw [dec_small h10]; simp
    · rw [dec_big h10, List.length_append]
      have := dec_len k (u / 10) (by rw [Nat.pow_succ] at h; omega)
      simp
      omega
theorem dec_pos (u : Nat) : 1 ≤ (Lib.decDigits u).length := by
  by_cases h : u < 10
  · rw [dec_small h]; simp
  · rw [dec_big h]; simp
theorem dec_nine {u : Nat} (h : u ≤ 999999999) : (Lib.decDigits u).length ≤ 9 := dec_len 8 u (by
  have : (10 : Nat) ^ (8 + 1) = 1000000000 := by decide
  omega)
theorem dec_head (u : Nat) : 1 ≤ u → (Lib.decDigits u).head? ≠ some 48 := by
  induction u using Nat.strongRecOn with
  | _ u ih =>
    intro h1
    by_cases h : u < 10
    · rw [dec_small h]
      have := digit_toNat h
      intro e
      simp only [List.head?_cons, Option.some.injEq] at e
      rw [e] at this
      simp at this
      omega
    · have hp := dec_pos (u / 10)
      have hi := ih (u / 10) (by omega) (by omega)
      rw [dec_big h]
      cases hd : Lib.decDigits (u / 10) with
      | nil => rw [hd] at hp; simp at hp
      | cons a r => rw [hd] at hi; simpa using hi
theorem numOk_dec {u : Nat} (h : u ≤ 999999999) : numOk (Lib.decDigits u) = true := by
  refine numOk_iff.2 ⟨dec_digits u, ⟨dec_pos u, dec_nine h⟩, ?_⟩
  by_cases h10 : u < 10
  · rw [dec_small h10]; exact .inl rfl
  · exact .inr (dec_head u (by omega))
theorem dec_back : ∀ (n : Nat) (l : List UInt8), l.length = n + 1 → (∀ b ∈ l, digB b = true) → (n = 0 ∨ l.head? ≠ some 48) → Lib.decDigits (valL l) = l ∧ (l.head? ≠ some 48 → 1 ≤ valL l)
  | 0, l, hl, hd, _ => by
    match l, hl with
    | [b], _ =>
      have hb := digB_iff.1 (hd b (by simp))
      have e : valL [b] = b.toNat - 48 := by show 10 * 0 + (b.toNat - 48) = _; omega
      refine ⟨?_, fun h => ?_⟩
      · rw [e, dec_small (by omega), digit_ofNat (b := b) (by omega)]
      · rw [e]
        have : ¬ b.toNat = 48 := fun h' => h (by
          have : b = 48 := UInt8.toNat_inj.1 h'
          rw [this]; rfl)
        omega
  | n + 1, l, hl, hd, hh => by
    have hne : l ≠ [] := by intro e; rw [e] at hl; simp at hl
    have hs : l = l.dropLast ++ [l.getLast hne] := (List.dropLast_concat_getLast hne).symm
    have hm : l.dropLast.length = n + 1 := by rw [List.length_dropLast]; omega
    have hhd : l.head? ≠ some 48 := by
      rcases hh with hh | hh
      · omega
      · exact hh
    have hhm : l.dropLast.head? ≠ some 48 := by
      cases hq : l.dropLast with
      | nil => rw [hq] at hm; simp at hm
      | cons a r =>
        rw [hq] at hs
        rw [hs] at hhd
        simpa using hhd
    obtain ⟨i1, i2⟩ := dec_back n l.dropLast hm (fun b hb => hd b ((List.dropLast_sublist _).subset hb)) (.inr hhm)
    have i3 := i2 hhm
    have hb := digB_iff.1 (hd _ (List.getLast_mem hne))
    have ev : valL l = 10 * valL l.dropLast + ((l.getLast hne).toNat - 48) := by
      conv => lhs; rw [hs]
      exact valL_snoc _ _
    refine ⟨?_, fun _ => by omega⟩
    rw [dec_big (by omega)]
    have q1 : valL l / 10 = valL l.dropLast := by omega
    have q2 : valL l % 10 = (l.getLast hne).toNat - 48 := by omega
    rw [q1, q2, i1, digit_ofNat (b := l.getLast hne) (by omega)]
    exact hs.symm
theorem dec_of_numOk {l : List UInt8} (h : numOk l = true) : Lib.decDigits (valL l) = l := by
  obtain ⟨h1, h2, h3⟩ := numOk_iff.1 h
  refine (dec_back (l.length - 1) l (by omega) h1 ?_).1
  rcases h3 with h3 | h3
  · exact .inl (by omega)
  · exact .inr h3

/-- What a text is as a number; whether it is one; a number's text. -/
def numB (s : ByteArray) : Bool := numOk s.data.toList
def numV (s : ByteArray) : Int := if numB s = true then (valL s.data.toList : Int) else 0
def numT (n : Int) : ByteArray := if inB n 0 999999999 = true then ⟨(Lib.itoa n).toArray⟩ else ⟨#[]⟩
theorem numV_hit {s : ByteArray} (h : numB s = true) : numV s = (valL s.data.toList : Int) := if_pos h
theorem numV_miss {s : ByteArray} (h : numB s = false) : numV s = 0 := if_neg (by simp [h])
theorem numV_in {s : ByteArray} : 0 ≤ numV s ∧ numV s ≤ 999999999 := by
  cases h : numB s
  · rw [numV_miss h]; omega
  · obtain ⟨h1, h2, _⟩ := numOk_iff.1 h
    have := valL_nine h1 h2.2
    rw [numV_hit h]
    omega
theorem itoa_nat {n : Int} (h : 0 ≤ n) : Lib.itoa n = Lib.decDigits n.toNat := by rw [Lib.itoa, if_neg (by omega)]
theorem numT_in {n : Int} (h0 : 0 ≤ n) (h1 : n ≤ 999999999) : numT n = ⟨(Lib.decDigits n.toNat).toArray⟩ := by rw [numT, if_pos (inB_mk h0 h1), itoa_nat h0]
theorem numT_out {n : Int} (h : inB n 0 999999999 = false) : numT n = ⟨#[]⟩ := if_neg (by simp [h])
theorem numT_size (n : Int) : (numT n).size ≤ 9 := by
  cases h : inB n 0 999999999
  · rw [numT_out h]; exact Nat.zero_le _
  · obtain ⟨h0, h1⟩ := inB_true h
    rw [numT_in h0 h1]
    have := dec_nine (u := n.toNat) (by omega)
    simpa [ByteArray.size] using this
theorem numT_get {n : Int} (h0 : 0 ≤ n) (h1 : n ≤ 999999999) : numB (numT n) = true ∧ numV (numT n) = n := by
  have h : numB (numT n) = true := by
    rw [numT_in h0 h1]
    exact numOk_dec (by omega)
  refine ⟨h, ?_⟩
  rw [numV_hit h, numT_in h0 h1]
  show ((valL (Lib.decDigits n.toNat) : Nat) : Int) = n
  rw [dec_val]
  omega
theorem bytes_ext {a b : ByteArray} (h : a.data.toList = b.data.toList) : a = b := by
  cases a; cases b
  simp only [ByteArray.mk.injEq]
  exact Array.toList_inj.1 h
theorem numB_put {s : ByteArray} (h : numB s = true) : numT (numV s) = s := by
  have hb := numV_in (s := s)
  rw [numT_in hb.1 hb.2]
  refine bytes_ext ?_
  show Lib.decDigits (numV s).toNat = _
  rw [numV_hit h, Int.toNat_natCast]
  exact dec_of_numOk h
theorem numB_size {s : ByteArray} (h : numB s = true) : 1 ≤ s.size ∧ s.size ≤ 9 := by
  have := (numOk_iff.1 h).2.1
  rw [Array.length_toList] at this
  exact this
theorem atoi_hit {s : ByteArray} (h : numB s = true) : Lib.atoi s.data.toList = some (numV s) := by
  rw [numV_hit h]
  obtain ⟨h1, h2, _⟩ := numOk_iff.1 h
  cases hl : s.data.toList with
  | nil => rw [hl] at h2; simp at h2
  | cons b r =>
    rw [hl] at h1
    have hb := digB_iff.1 (h1 b (List.mem_cons_self ..))
    have n1 : ¬ b = 45 := fun e => by rw [e] at hb; simp at hb
    have n2 : ¬ b = 43 := fun e => by rw [e] at hb; simp at hb
    have : Lib.decNat (b :: r) = some (valL (b :: r)) := by
      rw [Lib.decNat, if_neg (by simp)]
      exact decFrom_val _ _ h1
    simp [Lib.atoi, n1, n2, this]
theorem atoi_miss {s : ByteArray} (h : numB s = false) {v : Int} (hv : Lib.atoi s.data.toList = some v) : ¬ numT v = s := by
  intro e
  cases hi : inB v 0 999999999
  · rw [numT_out hi] at e
    subst e
    simp [Lib.atoi] at hv
  · obtain ⟨h0, h1⟩ := inB_true hi
    have := (numT_get h0 h1).1
    rw [e, h] at this
    cases this

/-! The reference's reading of a number at the beginning of a text. -/
def leadL (l : List UInt8) : List UInt8 := (l.take 9).takeWhile digB
def zeroB (l : List UInt8) : Bool := decide (1 < (leadL l).length) && l.head? == some 48
def l1N (s : ByteArray) : Int := if zeroB s.data.toList = true then 0 else (valL (leadL s.data.toList) : Int)
def l1K (s : ByteArray) : Nat := if zeroB s.data.toList = true then 1 else (leadL s.data.toList).length
theorem leadL_take {l : List UInt8} {k : Nat} (h9 : k ≤ 9) (hk : k ≤ l.length) (hd : ∀ b ∈ l.take k, digB b = true) (he : k = l.length ∨ k = 9 ∨ ∃ b, l[k]? = some b ∧ digB b = false) : leadL l = l.take k := by
  have e : l.take 9 = l.take k ++ (l.drop k).take (9 - k) := by
    have : l.take 9 = l.take (k + (9 - k)) := by congr 1; omega
    rw [this, List.take_add]
  rw [leadL, e, List.takeWhile_append_of_pos hd]
  have : ((l.drop k).take (9 - k)).takeWhile digB = [] := by
    rcases he with he | he | ⟨b, hb, hn⟩
    · rw [List.drop_of_length_le (by omega)]; simp
    · rw [he]; simp
    · have hlt : k < l.length := by
        rcases Nat.lt_or_ge k l.length with h | h
        · exact h
        · rw [List.getElem?_eq_none h] at hb; cases hb
      rcases Nat.eq_zero_or_pos (9 - k) with h0 | h0
      · rw [h0]; simp
      · obtain ⟨m, hm⟩ : ∃ m, 9 - k = m + 1 := ⟨9 - k - 1, by omega⟩
        have hb' : l[k] = b := by rw [List.getElem?_eq_getElem hlt] at hb; exact Option.some.inj hb
        rw [hm, List.drop_eq_getElem_cons hlt, List.take_succ_cons, hb', List.takeWhile_cons, hn]
        rfl
  rw [this, List.append_nil]
theorem leadL_pre (l : List UInt8) : leadL l <+: l := (List.takeWhile_prefix _).trans (List.take_prefix _ _)
theorem leadL_len (l : List UInt8) : (leadL l).length ≤ 9 ∧ (leadL l).length ≤ l.length := by
  have h1 := (List.takeWhile_prefix (p := digB) (l := l.take 9)).length_le
  have h2 := (leadL_pre l).length_le
  rw [List.length_take] at h1
  exact ⟨by unfold leadL; omega, h2⟩
theorem leadL_dig (l : List UInt8) : ∀ b ∈ leadL l, digB b = true := fun b hb => List.all_eq_true.1 (List.all_takeWhile (p := digB) (l := l.take 9)) b hb
theorem leadL_all {l : List UInt8} (hd : ∀ b ∈ l, digB b = true) (h9 : l.length ≤ 9) : leadL l = l := by
  have := leadL_take (l := l) (k := l.length) h9 (Nat.le_refl _) (by rw [List.take_length]; exact hd) (.inl rfl)
  rw [List.take_length] at this
  exact this
theorem l1_bounds (s : ByteArray) : 0 ≤ l1N s ∧ l1N s ≤ 999999999 ∧ l1K s ≤ 9 ∧ l1K s ≤ s.size := by
  have h1 := leadL_len s.data.toList
  have h2 := valL_nine (leadL_dig s.data.toList) h1.1
  have h3 : s.data.toList.length = s.size := Array.length_toList
  unfold l1N l1K
  split
  · next h =>
    simp only [zeroB, Bool.and_eq_true, decide_eq_true_eq] at h
    omega
  · omega
/-- What the reference reads is all of the text: then, and then alone, it is a number. -/
theorem l1_num (s : ByteArray) : numB s = (decide (¬ l1K s = 0) && decide (l1K s = s.size)) ∧ (numB s = true → numV s = l1N s) := by
  have h1 := leadL_len s.data.toList
  have hsz : s.data.toList.length = s.size := Array.length_toList
  cases hz : zeroB s.data.toList
  · have eK : l1K s = (leadL s.data.toList).length := by rw [l1K, hz]; rfl
    have eN : l1N s = (valL (leadL s.data.toList) : Int) := by rw [l1N, hz]; rfl
    have key : numB s = true ↔ (¬ l1K s = 0 ∧ l1K s = s.size) := by
      constructor
      · intro h
        obtain ⟨a, b, c⟩ := numOk_iff.1 h
        rw [eK, leadL_all a b.2]
        omega
      · rintro ⟨a, b⟩
        rw [eK] at a b
        have e : leadL s.data.toList = s.data.toList := (leadL_pre _).eq_of_length (by omega)
        refine numOk_iff.2 ⟨by rw [← e]; exact leadL_dig _, ⟨by omega, by omega⟩, ?_⟩
        simp only [zeroB, Bool.and_eq_false_imp, decide_eq_true_eq, beq_eq_false_iff_ne] at hz
        rcases Nat.lt_or_ge 1 (leadL s.data.toList).length with h | h
        · exact .inr (hz h)
        · exact .inl (by omega)
    refine ⟨?_, fun h => ?_⟩
    · rw [Bool.eq_iff_iff, key]; simp
    · obtain ⟨a, b, c⟩ := numOk_iff.1 h
      rw [numV_hit h, eN, leadL_all a b.2]
  · have hz' := hz
    simp only [zeroB, Bool.and_eq_true, decide_eq_true_eq, beq_iff_eq] at hz'
    have eK : l1K s = 1 := by rw [l1K, hz]; rfl
    have hf : numB s = false := by
      cases h : numB s
      · rfl
      · obtain ⟨a, b, c⟩ := numOk_iff.1 h
        rcases c with c | c
        · omega
        · exact absurd hz'.2 c
    refine ⟨?_, fun h => by rw [hf] at h; cases h⟩
    rw [hf, eK]
    have : ¬ 1 = s.size := by omega
    simp [this]

end Go.Proofs.YtafadedacbjioaaGreatDoor

/- Words for memory: which blocks a call leaves alone ('Kp'), and a slice that reads as a list ('RdT'). -/
namespace Go.Proofs.YtafadedacbjioaaGreatDoor
open Go.RowKit
set_option linter.unusedVariables false

/-- All blocks that were there, but those listed, are as they were. -/
structure Kp (ex : List Nat) (w w' : World) : Prop where
  os : w'.os = w.os
  tape : w'.tape = w.tape
  output : w'.output = w.output
  size : w.heap.size ≤ w'.heap.size
  block : ∀ k, k < w.heap.size → k ∉ ex → w'.heap[k]? = w.heap[k]?

section
variable {ex ex' : List Nat} {w w' w'' : World}
theorem Kp.refl (ex : List Nat) (w : World) : Kp ex w w := ⟨rfl, rfl, rfl, Nat.le_refl _, fun _ _ _ => rfl⟩
theorem Kp.trans (h : Kp ex w w') (k : Kp ex w' w'') : Kp ex w w'' :=
  ⟨k.os.trans h.os, k.tape.trans h.tape, k.output.trans h.output, Nat.le_trans h.size k.size, fun i hi he => (k.block i (Nat.lt_of_lt_of_le hi h.size) he).trans (h.block i hi he)⟩
theorem Kp.mono (h : Kp ex w w') (hs : ∀ k ∈ ex, k ∈ ex') : Kp ex' w w' := ⟨h.os, h.tape, h.output, h.size, fun i hi he => h.block i hi (fun hm => he (hs i hm))⟩
theorem Kp.of_below (h : Below w.heap.size w w') : Kp [] w w' := ⟨h.os, h.tape, h.output, h.size, fun i hi _ => h.block i hi⟩
theorem Kp.all (h : Kp [] w w') (ex : List Nat) : Kp ex w w' := h.mono (fun _ hm => by cases hm)
/-- A later list may name what is new. -/
theorem Kp.trans' (h : Kp ex w w') (k : Kp ex' w' w'') (hn : ∀ i ∈ ex', i ∈ ex ∨ w.heap.size ≤ i) : Kp ex w w'' :=
  ⟨k.os.trans h.os, k.tape.trans h.tape, k.output.trans h.output, Nat.le_trans h.size k.size, fun i hi he => by
    refine (k.block i (Nat.lt_of_lt_of_le hi h.size) (fun hm => ?_)).trans (h.block i hi he)
    rcases hn i hm with hm | hm
    · exact he hm
    · omega⟩
theorem Kp.below (h : Kp ex w w') {B : Nat} (hB : B ≤ w.heap.size) (he : ∀ k ∈ ex, B ≤ k) : Below B w w' :=
  ⟨h.os, h.tape, h.output, h.size, fun i hi => h.block i (by omega) (fun hm => by have := he i hm; omega)⟩
theorem Kp.below0 (h : Kp [] w w') : Below w.heap.size w w' := h.below (Nat.le_refl _) (fun _ hm => by cases hm)
theorem Kp.cell (h : Kp ex w w') {b o : Nat} (hb : b < w.heap.size) (he : b ∉ ex) : w'.cell? ⟨b, o, none⟩ = w.cell? ⟨b, o, none⟩ := World.cell?_of_block (w := w) (a := ⟨b, o, none⟩) (h.block b hb he)
theorem Kp.frozen (h : Kp ex w w') {b o : Nat} (hb : b < w.heap.size) (he : b ∉ ex) : w'.frozen? ⟨b, o, none⟩ = w.frozen? ⟨b, o, none⟩ := World.frozen?_of_block (w := w) (a := ⟨b, o, none⟩) (h.block b hb he)
theorem Kp.drew (h : Kp ex w w') : Kp ex w w'.drew := ⟨h.os, h.tape, h.output, h.size, h.block⟩
theorem Kp.drewN (h : Kp ex w w') (n : Nat) : Kp ex w (w'.drewN n) := ⟨h.os, h.tape, h.output, h.size, h.block⟩
theorem Kp.alloc (h : Kp ex w w') (o : Obj) : Kp ex w (w'.alloc o) := h.trans ⟨rfl, rfl, rfl, by simp, fun k hk _ => Below.heap_alloc _ _ _ hk⟩
theorem Kp.setCell (h : Kp ex w w') {p : Addr} (hp : p.block ∈ ex ∨ w.heap.size ≤ p.block) (u : Value) : Kp ex w (w'.setCell p u) :=
  ⟨h.os, h.tape, h.output, by rw [World.size_setCell]; exact h.size, fun k hk he => by
    rw [Below.heap_setCell _ _ _ _ (by
      intro e
      subst e
      rcases hp with hp | hp
      · exact he hp
      · omega)]
    exact h.block k hk he⟩
end

/-- The walk's two rules behind a call that leaves old memory alone. -/
theorem bcell {W w1 : World} (hb : Below W.heap.size W w1) : (∀ b o, b < W.heap.size → w1.cell? ⟨b, o, none⟩ = W.cell? ⟨b, o, none⟩) ∧ (∀ b o, b < W.heap.size → w1.frozen? ⟨b, o, none⟩ = W.frozen? ⟨b, o, none⟩) :=
  ⟨fun b o h => hb.cell (p := ⟨b, o, none⟩) h, fun b o h => hb.frozen (p := ⟨b, o, none⟩) h⟩

theorem below_alloc {w W : World} (h : Below w.heap.size w W) (o : Obj) : Below w.heap.size w (W.alloc o) := h.alloc h.size o
theorem below_drewN {B : Nat} {w W : World} (h : Below B w W) (n : Nat) : Below B w (W.drewN n) := ⟨h.os, h.tape, h.output, h.size, h.block⟩
theorem below_kp {ex : List Nat} {w W W' : World} (h : Below w.heap.size w W) (hk : Kp ex W W') (he : ∀ k ∈ ex, w.heap.size ≤ k) : Below w.heap.size w W' := h.trans (hk.below h.size he)
theorem below_below {w W W' : World} (h : Below w.heap.size w W) (hk : Below W.heap.size W W') : Below w.heap.size w W' := h.trans (hk.mono h.size)
theorem below_set {w W : World} (h : Below w.heap.size w W) {p : Addr} (hp : w.heap.size ≤ p.block) (u : Value) : Below w.heap.size w (W.setCell p u) := h.setCell hp u

/-! A slice that reads as a list: 'enc x j' is cell j of the element x, 'sz' cells an element. -/
def RowAt {α : Type} (enc : α → Nat → Value) (sz : Nat) (w : World) (b off : Nat) (xs : List α) : Prop :=
  b < w.heap.size ∧ ∀ i x, xs[i]? = some x → ∀ j, j < sz → w.cell? ⟨b, off + i * sz + j, none⟩ = some (enc x j)
def RdT {α : Type} (enc : α → Nat → Value) (sz : Nat) (w : World) (A : Option Addr) (xs : List α) : Prop :=
  0 < xs.length → ∃ b off, A = some ⟨b, off, none⟩ ∧ RowAt enc sz w b off xs

section
variable {α : Type} {enc : α → Nat → Value} {sz : Nat} {w w' : World} {A : Option Addr} {xs : List α} {b off : Nat}
theorem RowAt.keep (h : RowAt enc sz w b off xs) (hb : w'.heap[b]? = w.heap[b]?) (hs : w.heap.size ≤ w'.heap.size) : RowAt enc sz w' b off xs :=
  ⟨Nat.lt_of_lt_of_le h.1 hs, fun i x hx j hj => (World.cell?_of_block (w := w) (a := ⟨b, _, none⟩) hb).trans (h.2 i x hx j hj)⟩
theorem RdT.keep (h : RdT enc sz w A xs) (hs : w.heap.size ≤ w'.heap.size) (hb : 0 < xs.length → ∀ a, A = some a → a.block < w.heap.size → w'.heap[a.block]? = w.heap[a.block]?) : RdT enc sz w' A xs := fun hn => by
  obtain ⟨b, off, rfl, hr⟩ := h hn
  exact ⟨b, off, rfl, hr.keep (hb hn _ rfl hr.1) hs⟩
theorem RdT.below (h : RdT enc sz w A xs) (hb : Below w.heap.size w w') : RdT enc sz w' A xs := h.keep hb.size (fun _ a _ hl => hb.block _ hl)
theorem RdT.kp {ex : List Nat} (h : RdT enc sz w A xs) (hb : Kp ex w w') (he : 0 < xs.length → ∀ a, A = some a → a.block ∉ ex) : RdT enc sz w' A xs := h.keep hb.size (fun hn a ha hl => hb.block _ hl (he hn a ha))
theorem RdT.lt (h : RdT enc sz w A xs) (hn : 0 < xs.length) : ∀ a, A = some a → a.block < w.heap.size := by
  obtain ⟨b, off, rfl, hr⟩ := h hn
  intro a ha
  cases ha
  exact hr.1
theorem RdT.take (h : RdT enc sz w A xs) (k : Nat) : RdT enc sz w A (xs.take k) := fun hn => by
  have hl : 0 < xs.length := by rw [List.length_take] at hn; omega
  obtain ⟨b, off, rfl, hr⟩ := h hl
  refine ⟨b, off, rfl, hr.1, fun i x hx j hj => hr.2 i x ?_ j hj⟩
  rw [List.getElem?_take] at hx
  split at hx
  · exact hx
  · cases hx
theorem RdT.none_ : RdT enc sz w A ([] : List α) := fun h => absurd h (by simp)
theorem RowAt.tail {off' : Nat} (h : RowAt enc sz w b off xs) (k : Nat) (ho : off' = off + k * sz) : RowAt enc sz w b off' (xs.drop k) :=
  ⟨h.1, fun i x hx j hj => by
    rw [List.getElem?_drop] at hx
    have := h.2 _ x hx j hj
    rw [ho, ← this, Nat.add_mul]
    congr 2
    omega⟩
end

/-- The elements' cells. -/
def encI (k : IntKind) (z : Int) (_ : Nat) : Value := .int k z
def encS (s : ByteArray) (_ : Nat) : Value := .string s

/-- Where the addresses of a slice lie: from a block on. -/
def From (B : Nat) (A : Option Addr) : Prop := ∀ a, A = some a → B ≤ a.block

end Go.Proofs.YtafadedacbjioaaGreatDoor

/- A statement whose order is open, whose operations only read, and whose callees leave old memory alone: walked once. -/
namespace Go.Proofs.YtafadedacbjioaaGreatDoor
open Go.RowKit Go.Sort
set_option linter.unusedVariables false

theorem grow_cell (W : World) (b o : Nat) (h : b < W.heap.size) (p : Regrown) : (grow (redrawn W p.d) p.os).cell? ⟨b, o, none⟩ = W.cell? ⟨b, o, none⟩ := (below_regrown W p.d p.os).cell (p := ⟨b, o, none⟩) h

theorem below_of_regrown {W w' : World} (h : ∃ p : Regrown, w' = grow (redrawn W p.d) p.os) : Below W.heap.size W w' := by
  obtain ⟨p, rfl⟩ := h
  exact below_regrown W p.d p.os

/-- The region walked once, in the order of the text; behind it some world of which 'Below' is known. -/
theorem wp_quiet_b {P : Program} {id : Nat} {Q : Exit → Act → World → Prop} {a : Act} {W : World} {l : List Oper} (hm : P.follows .mixedOrders = true) (hB : Region.lexB .any l.toArray = true)
    (h : (∀ b o, b < W.heap.size → ∀ p : Regrown, (grow (redrawn W p.d) p.os).cell? ⟨b, o, none⟩ = W.cell? ⟨b, o, none⟩) →
      wpQuiet P l.toArray (fun w' => ∃ p : Regrown, w' = grow (redrawn W p.d) p.os) (fun a' => ∀ w', (∃ p : Regrown, w' = grow (redrawn W p.d) p.os) → Q .normal a' w') l a) : (Code.region id l.toArray true).wp P Q a W :=
  wp_region_quiet_below hm hB (h (fun b o hb p => grow_cell W b o hb p))

/-- A callee's contract, met inside. -/
theorem quiet_b {P : Program} {f : FuncId} {args : Array Value} {W : World} {p : Regrown} {v : Value}
    (h : Calls P f args (grow (redrawn W p.d) p.os) fun e w' => e = .returned v ∧ Below (grow (redrawn W p.d) p.os).heap.size (grow (redrawn W p.d) p.os) w') :
    Calls P f args (grow (redrawn W p.d) p.os) fun e w'' => e = .returned v ∧ ∃ p : Regrown, w'' = grow (redrawn W p.d) p.os := Calls.regrown_of h
theorem quiet_s {P : Program} {f : FuncId} {args : Array Value} {W : World} {p : Regrown} {v : Value}
    (h : Calls P f args (grow (redrawn W p.d) p.os) fun e w' => e = .returned v ∧ grow (redrawn W p.d) p.os = w') :
    Calls P f args (grow (redrawn W p.d) p.os) fun e w'' => e = .returned v ∧ ∃ p : Regrown, w'' = grow (redrawn W p.d) p.os := h.mono fun _ _ ⟨he, hw⟩ => ⟨he, p, hw.symm⟩

end Go.Proofs.YtafadedacbjioaaGreatDoor

/- Names: the program's NameOk and the reference's return one Bool for every text. -/
namespace Go.Proofs.YtafadedacbjioaaGreatDoor
open Go.RowKit
set_option linter.unusedVariables false

/-- The first k bytes are small letters. -/
def lowTo (s : ByteArray) (k : Nat) : Prop := ∀ i (h : i < s.size), i < k → 97 ≤ (s[i]).toNat ∧ (s[i]).toNat ≤ 122
instance (s : ByteArray) (k : Nat) : Decidable (lowTo s k) := inferInstanceAs (Decidable (∀ i (h : i < s.size), i < k → 97 ≤ (s[i]).toNat ∧ (s[i]).toNat ≤ 122))
/-- A name. -/
def nameB (s : ByteArray) : Bool := inB s.size 1 4 && decide (lowTo s s.size)
theorem lowTo_zero (s : ByteArray) : lowTo s 0 := fun _ _ h => absurd h (by omega)
theorem lowTo_succ {s : ByteArray} {k : Nat} (h : lowTo s k) (hk : k < s.size) (h1 : 97 ≤ (s[k]).toNat) (h2 : (s[k]).toNat ≤ 122) : lowTo s (k + 1) := fun i hi hik => by
  by_cases e : i = k
  · subst e; exact ⟨h1, h2⟩
  · exact h i hi (by omega)
theorem nameB_no {s : ByteArray} {k : Nat} (hk : k < s.size) (h : (s[k]).toNat < 97 ∨ 122 < (s[k]).toNat) : nameB s = false := by
  unfold nameB
  have : ¬ lowTo s s.size := fun hl => by have := hl k hk hk; omega
  simp [this]
theorem nameB_end {s : ByteArray} (h : lowTo s s.size) : nameB s = inB s.size 1 4 := by simp [nameB, h]
theorem nameB_out {s : ByteArray} (h : inB s.size 1 4 = false) : nameB s = false := by simp [nameB, h]
theorem nameB_in {s : ByteArray} (h : inB s.size 1 4 = true) : nameB s = decide (lowTo s s.size) := by simp [nameB, h]
theorem nameB_size {s : ByteArray} (h : nameB s = true) : 1 ≤ s.size ∧ s.size ≤ 4 := by
  have : inB s.size 1 4 = true := by
    cases e : inB s.size 1 4
    · rw [nameB_out e] at h; cases h
    · rfl
  have := inB_true this
  omega

theorem decode_high (s : ByteArray) (pos : Nat) (h : pos < s.size) (hl : 128 ≤ (s[pos]'h).toNat) : 128 ≤ (Utf8.decode s pos).1 := by
  have e : s.get! (pos + 0) = s[pos]'h := by
    show s.get! pos = _
    simp [ByteArray.get!, getElem!_pos, h]
    rfl
  unfold Utf8.decode
  simp only [e]
  rw [if_neg (by omega)]
  split
  · split
    · assumption
    · decide
  · split
    · split
      · next h => simp at h; omega
      · decide
    · split
      · split
        · next h => simp at h; omega
        · decide
      · decide

/-- No letter. -/
def notLow (x : Nat) : Bool := decide ((x : Int) < 97) || decide (122 < (x : Int))

theorem idxFrom_low (s : ByteArray) : ∀ (f pos : Nat), s.size ≤ pos + f → lowTo s pos → (Lib.idxFuncFrom notLow true s f pos < 0 ↔ lowTo s s.size)
  | 0, pos, hf, hl => by
    have : lowTo s s.size := fun i hi _ => hl i hi (by omega)
    simp [Lib.idxFuncFrom, this]
  | f + 1, pos, hf, hl => by
    unfold Lib.idxFuncFrom
    by_cases hp : pos < s.size
    · rw [if_pos hp]
      by_cases hlow : 97 ≤ (s[pos]).toNat ∧ (s[pos]).toNat ≤ 122
      · rw [decode_ascii s pos hp (by omega)]
        have : notLow (s[pos]).toNat = false := by unfold notLow; simp; omega
        simp only [this, Bool.false_eq_true, if_false]
        exact idxFrom_low s f (pos + 1) (by omega) (lowTo_succ hl hp hlow.1 hlow.2)
      · have hn : notLow (Utf8.decode s pos).1 = true := by
          by_cases h128 : (s[pos]).toNat < 128
          · rw [decode_ascii s pos hp h128]
            unfold notLow
            simp
            omega
          · have := decode_high s pos hp (by omega)
            unfold notLow
            simp
            omega
        rw [if_pos hn]
        have : ¬ lowTo s s.size := fun hl => hlow (hl pos hp hp)
        simp [this]
    · rw [if_neg hp]
      have : lowTo s s.size := fun i hi _ => hl i hi (by omega)
      simp [this]
theorem idx_low (s : ByteArray) : decide (Lib.idxFunc notLow true s < 0) = decide (lowTo s s.size) := by
  have := idxFrom_low s s.size 0 (by omega) (lowTo_zero s)
  simp only [Lib.idxFunc]
  exact decide_eq_decide.2 this

end Go.Proofs.YtafadedacbjioaaGreatDoor

/- Slices of elements of several cells: the cells of a list of elements, and the kit's own rows ('ownsRow') read as such. -/
namespace Go.Proofs.YtafadedacbjioaaGreatDoor
open Go.RowKit
set_option linter.unusedVariables false

section
variable {α : Type} {enc : α → Nat → Value} {sz : Nat}
/-- The cells of a list of elements. -/
def cellsOf (enc : α → Nat → Value) (sz : Nat) : List α → List Value
  | [] => []
  | x :: r => (List.range sz).map (enc x) ++ cellsOf enc sz r

theorem cellsOf_length : ∀ (l : List α), (cellsOf enc sz l).length = l.length * sz
  | [] => by simp [cellsOf]
  | x :: r => by simp [cellsOf, cellsOf_length r, Nat.add_mul]; omega
theorem cellsOf_get : ∀ (l : List α) (i j : Nat) (x : α), l[i]? = some x → j < sz → (cellsOf enc sz l)[i * sz + j]? = some (enc x j)
  | [], i, j, x, h, hj => by simp at h
  | y :: r, 0, j, x, h, hj => by
    simp at h
    subst h
    simp [cellsOf, List.getElem?_append, hj]
  | y :: r, i + 1, j, x, h, hj => by
    have := cellsOf_get r i j x (by simpa using h) hj
    rw [← this]
    simp only [cellsOf]
    rw [List.getElem?_append_right (by simp [Nat.add_mul]; omega)]
    congr 1
    simp [Nat.add_mul]
    omega
theorem cellsOf_append : ∀ (l m : List α), cellsOf enc sz (l ++ m) = cellsOf enc sz l ++ cellsOf enc sz m
  | [], m => rfl
  | x :: r, m => by simp [cellsOf, cellsOf_append r m]
theorem cellsOf_one (x : α) : cellsOf enc sz [x] = (List.range sz).map (enc x) := by simp [cellsOf]
theorem cellsOf_take (l : List α) (k : Nat) : (cellsOf enc sz l).take (k * sz) = cellsOf enc sz (l.take k) := by
  by_cases hk : k ≤ l.length
  · conv => lhs; rw [← List.take_append_drop k l]
    rw [cellsOf_append, List.take_append_of_le_length (by rw [cellsOf_length, List.length_take, Nat.min_eq_left hk]; exact Nat.le_refl _), List.take_of_length_le (by rw [cellsOf_length, List.length_take, Nat.min_eq_left hk]; exact Nat.le_refl _)]
  · rw [List.take_of_length_le (by rw [cellsOf_length]; exact Nat.mul_le_mul_right _ (by omega)), List.take_of_length_le (by omega)]
theorem cellsOf_drop (l : List α) (k : Nat) : (cellsOf enc sz l).drop (k * sz) = cellsOf enc sz (l.drop k) := by
  by_cases hk : k ≤ l.length
  · conv => lhs; rw [← List.take_append_drop k l]
    rw [cellsOf_append, List.drop_append, List.drop_of_length_le (by rw [cellsOf_length, List.length_take, Nat.min_eq_left hk]; exact Nat.le_refl _)]
    rw [cellsOf_length, List.length_take, Nat.min_eq_left hk, Nat.sub_self]
    simp
  · rw [List.drop_of_length_le (by rw [cellsOf_length]; exact Nat.mul_le_mul_right _ (by omega)), List.drop_of_length_le (by omega)]
    rfl
/-- Element k replaced: its cells replaced (two cells an element). -/
theorem cellsOf_set2 (l : List α) (k : Nat) (x : α) (hk : k < l.length) : ((cellsOf enc 2 l).set (k * 2) (enc x 0)).set (k * 2 + 1) (enc x 1) = cellsOf enc 2 (l.set k x) := by
  induction l generalizing k with
  | nil => simp at hk
  | cons y r ih =>
    cases k with
    | zero => simp [cellsOf, List.range_succ]
    | succ k =>
      have := ih k (by simpa using hk)
      simp only [List.set_cons_succ, cellsOf, ← this]
      simp [List.range_succ, Nat.add_mul]
theorem cellsOf_set1 (l : List α) (k : Nat) (x : α) (hk : k < l.length) : (cellsOf enc 1 l).set k (enc x 0) = cellsOf enc 1 (l.set k x) := by
  induction l generalizing k with
  | nil => simp at hk
  | cons y r ih =>
    cases k with
    | zero => simp [cellsOf]
    | succ k =>
      have := ih k (by simpa using hk)
      simp only [List.set_cons_succ, cellsOf, ← this]
      simp
end

/-- The first k of a list, then so many zero elements: with element k in its place. -/
theorem fill_set {α : Type} (l : List α) (k : Nat) (x z : α) (h : l[k]? = some x) : (l.take k ++ List.replicate (l.length - k) z).set k x = l.take (k + 1) ++ List.replicate (l.length - (k + 1)) z := by
  have hk : k < l.length := by
    rcases Nat.lt_or_ge k l.length with h' | h'
    · exact h'
    · rw [List.getElem?_eq_none h'] at h; cases h
  apply List.ext_getElem?
  intro i
  have hlt : (l.take k).length = k := by rw [List.length_take]; omega
  have hlt1 : (l.take (k + 1)).length = k + 1 := by rw [List.length_take]; omega
  by_cases h1 : i < k
  · rw [List.getElem?_set_ne (by omega), List.getElem?_append_left (by omega), List.getElem?_append_left (by omega), List.getElem?_take, List.getElem?_take, if_pos h1, if_pos (by omega)]
  · by_cases h2 : i = k
    · subst h2
      rw [List.getElem?_set_self (by simp; omega), List.getElem?_append_left (by omega), List.getElem?_take, if_pos (by omega), h]
    · rw [List.getElem?_set_ne (by omega), List.getElem?_append_right (by omega), List.getElem?_append_right (by omega), hlt, hlt1, List.getElem?_replicate, List.getElem?_replicate]
      by_cases h3 : i < l.length
      · rw [if_pos (by omega), if_pos (by omega)]
      · rw [if_neg (by omega), if_neg (by omega)]

/-- A row of the call's own, read as a list of elements. -/
def Own {α : Type} (enc : α → Nat → Value) (sz T base : Nat) (w : World) (v : Value) (xs : List α) : Prop := w.ownsRow base T sz v xs.length (cellsOf enc sz xs)

section
variable {α : Type} {enc : α → Nat → Value} {sz T base : Nat} {w w' : World} {v : Value} {xs : List α}
theorem Own.form (h : Own enc sz T base w v xs) : ∃ A cap, v = .slice A xs.length cap ∧ xs.length ≤ cap ∧ cap ≤ 9223372036854775807 ∧ (∀ a, A = some a → base ≤ a.block ∧ a.block < w.heap.size) ∧ RdT enc sz w A xs := by
  have hlen := h.1
  rcases h.2 with ⟨rfl, h0⟩ | ⟨g, cap, cur, rfl, hg, hh, hn, hm, hsz, htake⟩
  · have : xs = [] := List.length_eq_zero_iff.1 h0
    subst this
    exact ⟨none, 0, rfl, Nat.le_refl _, by omega, fun a ha => (by cases ha), RdT.none_⟩
  · have hlt : g < w.heap.size := by
      rcases Nat.lt_or_ge g w.heap.size with h' | h'
      · exact h'
      · rw [Array.getElem?_eq_none h'] at hh; cases hh
    refine ⟨some ⟨g, 0, none⟩, cap, rfl, hn, by unfold maxLen at hm; omega, fun a ha => (by cases ha; exact ⟨hg, hlt⟩), fun hp => ⟨g, 0, rfl, hlt, fun i x hi j hj => ?_⟩⟩
    have hi' : i < xs.length := by
      rcases Nat.lt_or_ge i xs.length with h' | h'
      · exact h'
      · rw [List.getElem?_eq_none h'] at hi; cases hi
    have hb : i * sz + j < xs.length * sz := by
      have : (i + 1) * sz ≤ xs.length * sz := Nat.mul_le_mul_right _ hi'
      rw [Nat.add_mul] at this
      omega
    rw [show (0 : Nat) + i * sz + j = i * sz + j by omega]
    rw [World.ownsRow.cellAt (base := base) (e := T) (size := sz) (n := xs.length) (cap := cap) (xs := cellsOf enc sz xs) ⟨hlen, .inr ⟨g, cap, cur, rfl, hg, hh, hn, hm, hsz, htake⟩⟩ _ hb]
    exact cellsOf_get xs i j x hi hj
theorem Own.keep (h : Own enc sz T base w v xs) (hb : ∀ k, base ≤ k → k < w.heap.size → v.ownBlock = some k → w'.heap[k]? = w.heap[k]?) : Own enc sz T base w' v xs := by
  refine ⟨h.1, ?_⟩
  rcases h.2 with h | ⟨g, cap, cur, rfl, hg, hh, r⟩
  · exact .inl h
  · have hlt : g < w.heap.size := by
      rcases Nat.lt_or_ge g w.heap.size with h' | h'
      · exact h'
      · rw [Array.getElem?_eq_none h'] at hh; cases hh
    exact .inr ⟨g, cap, cur, rfl, hg, (hb g hg hlt rfl).trans hh, r⟩
theorem Own.below (h : Own enc sz T base w v xs) (hb : Below w.heap.size w w') : Own enc sz T base w' v xs := h.keep (fun k _ hl _ => hb.block k hl)
theorem Own.kp {ex : List Nat} (h : Own enc sz T base w v xs) (hb : Kp ex w w') (he : ∀ k ∈ ex, v.ownBlock ≠ some k) : Own enc sz T base w' v xs := h.keep (fun k _ hl hv => hb.block k hl (fun hm => he k hm hv))
theorem Own.more {base' : Nat} (h : Own enc sz T base w v xs) (hb : base' ≤ base) : Own enc sz T base' w v xs := by
  refine ⟨h.1, ?_⟩
  rcases h.2 with h | ⟨g, cap, cur, rfl, hg, r⟩
  · exact .inl h
  · exact .inr ⟨g, cap, cur, rfl, by omega, r⟩
theorem Own.nil : Own enc sz T base w (.slice none 0 0) ([] : List α) := ⟨by simp [cellsOf], .inl ⟨rfl, rfl⟩⟩
end

end Go.Proofs.YtafadedacbjioaaGreatDoor

/- Entries, in plain Lean: what a list of entries is; no program in sight. -/
namespace Go.Proofs.YtafadedacbjioaaGreatDoor
open Go.RowKit
set_option linter.unusedVariables false

structure Ent where
  name : ByteArray
  id : Int
def zeroE : Ent := ⟨ByteArray.empty, 0⟩
def encE (e : Ent) : Nat → Value
  | 0 => .string e.name
  | _ => .int .i64 e.id

/-- One text lies before another. -/
def ltB (a b : ByteArray) : Bool := Op.bytesLess a.toList b.toList

def prevLt : Option ByteArray → ByteArray → Bool
  | none, _ => true
  | some q, b => ltB q b
/-- All entries of a list are entries, each behind the one before it. -/
def okFrom : Option ByteArray → List Ent → Bool
  | _, [] => true
  | p, e :: r => nameB e.name && (inB e.id 1 15 && (prevLt p e.name && okFrom (some e.name) r))
def entriesOkB (l : List Ent) : Bool := okFrom none l && decide (l.length ≤ 12)

def prevOf (l : List Ent) : Nat → Option ByteArray
  | 0 => none
  | k + 1 => (l[k]?).map (·.name)

theorem okFrom_step {l : List Ent} {k : Nat} {e : Ent} (h : l[k]? = some e) :
    okFrom (prevOf l k) (l.drop k) = (nameB e.name && (inB e.id 1 15 && (prevLt (prevOf l k) e.name && okFrom (prevOf l (k + 1)) (l.drop (k + 1))))) := by
  have hk : k < l.length := by
    rcases Nat.lt_or_ge k l.length with h' | h'
    · exact h'
    · rw [List.getElem?_eq_none h'] at h; cases h
  have e1 : l[k] = e := by rw [List.getElem?_eq_getElem hk] at h; exact Option.some.inj h
  rw [List.drop_eq_getElem_cons hk, e1]
  simp [okFrom, prevOf, h]

/-- What is still to be asked from place k on. -/
def restOk (l : List Ent) (k : Nat) : Prop := entriesOkB l = (okFrom (prevOf l k) (l.drop k) && decide (l.length ≤ 12))
theorem restOk_zero (l : List Ent) : restOk l 0 := by simp [restOk, entriesOkB, prevOf]
theorem restOk_end {l : List Ent} (h : restOk l l.length) : entriesOkB l = decide (l.length ≤ 12) := by
  rw [h]
  simp [okFrom]
theorem restOk_name {l : List Ent} {k : Nat} {e : Ent} (h : restOk l k) (he : l[k]? = some e) (hn : nameB e.name = false) : entriesOkB l = false := by
  rw [h, okFrom_step he, hn]; simp
theorem restOk_id {l : List Ent} {k : Nat} {e : Ent} (h : restOk l k) (he : l[k]? = some e) (hn : inB e.id 1 15 = false) : entriesOkB l = false := by
  rw [h, okFrom_step he, hn]; simp
theorem restOk_lt {l : List Ent} {k : Nat} {e d : Ent} (h : restOk l (k + 1)) (hd : l[k]? = some d) (he : l[k + 1]? = some e) (hn : ltB d.name e.name = false) : entriesOkB l = false := by
  rw [h, okFrom_step he]
  simp [prevOf, hd, prevLt, hn]
theorem restOk_first {l : List Ent} {e : Ent} (h : restOk l 0) (he : l[0]? = some e) (h1 : nameB e.name = true) (h2 : inB e.id 1 15 = true) : restOk l 1 := by
  unfold restOk at h ⊢
  rw [h, okFrom_step he, h1, h2]
  simp [prevOf, prevLt]
theorem restOk_next {l : List Ent} {k : Nat} {e d : Ent} (h : restOk l (k + 1)) (hd : l[k]? = some d) (he : l[k + 1]? = some e) (h1 : nameB e.name = true) (h2 : inB e.id 1 15 = true) (h3 : ltB d.name e.name = true) : restOk l (k + 2) := by
  unfold restOk at h ⊢
  rw [h, okFrom_step he, h1, h2]
  simp [prevOf, hd, prevLt, h3]

end Go.Proofs.YtafadedacbjioaaGreatDoor

/- Paths, in plain Lean: a text cut at a byte and put together again; no program in sight. -/
namespace Go.Proofs.YtafadedacbjioaaGreatDoor
open Go.RowKit
set_option linter.unusedVariables false

theorem bytes_append (a b : ByteArray) : (a ++ b).data.toList = a.data.toList ++ b.data.toList := by
  rw [ByteArray.data_append]; simp
theorem size_data (s : ByteArray) : s.data.toList.length = s.size := Array.length_toList

/-- A text cut at a byte, 'acc' being what was met since the last cut. -/
def cutA (c : UInt8) : List UInt8 → List UInt8 → List (List UInt8)
  | acc, [] => [acc]
  | acc, b :: r => if b = c then acc :: cutA c [] r else cutA c (acc ++ [b]) r
def cutL (c : UInt8) (s : List UInt8) : List (List UInt8) := cutA c [] s
/-- Each text behind a byte. -/
def slash (c : UInt8) (xs : List (List UInt8)) : List UInt8 := (xs.map (c :: ·)).flatten

theorem cutA_slash (c : UInt8) : ∀ (s acc : List UInt8), slash c (cutA c acc s) = c :: acc ++ s
  | [], acc => by simp [cutA, slash]
  | b :: r, acc => by
    unfold cutA
    by_cases h : b = c
    · subst h
      have := cutA_slash b r []
      simp only [if_true, slash, List.map_cons, List.flatten_cons] at this ⊢
      rw [this]
      simp
    · rw [if_neg h, cutA_slash c r]
      simp
theorem cutL_slash (c : UInt8) (s : List UInt8) : slash c (cutL c s) = c :: s := by
  rw [cutL, cutA_slash]; simp

theorem cutA_free (c : UInt8) : ∀ (s acc : List UInt8), c ∉ acc → ∀ x ∈ cutA c acc s, c ∉ x
  | [], acc, h, x, hx => by simp [cutA] at hx; subst hx; exact h
  | b :: r, acc, h, x, hx => by
    unfold cutA at hx
    split at hx
    · rcases List.mem_cons.1 hx with rfl | hx
      · exact h
      · exact cutA_free c r [] (by simp) x hx
    · next hb =>
      refine cutA_free c r _ ?_ x hx
      intro hm
      rcases List.mem_append.1 hm with hm | hm
      · exact h hm
      · simp at hm; exact hb hm.symm

theorem cutA_skip (c : UInt8) : ∀ (x acc r : List UInt8), c ∉ x → cutA c acc (x ++ r) = cutA c (acc ++ x) r
  | [], acc, r, _ => by simp
  | b :: x, acc, r, h => by
    have hb : ¬ b = c := fun e => h (by simp [e])
    have hx : c ∉ x := fun e => h (by simp [e])
    rw [List.cons_append, cutA, if_neg hb, cutA_skip c x _ r hx]
    simp
theorem cutL_one (c : UInt8) (x : List UInt8) (h : c ∉ x) : cutL c x = [x] := by
  have := cutA_skip c x [] [] h
  rw [List.append_nil] at this
  rw [cutL, this]
  simp [cutA]
theorem cutL_hit (c : UInt8) (x r : List UInt8) (h : c ∉ x) : cutL c (x ++ c :: r) = x :: cutL c r := by
  rw [cutL, cutA_skip c x [] _ h, cutA, if_pos rfl]
  rfl
/-- What was put together comes apart again. -/
theorem cutL_put (c : UInt8) : ∀ (xs : List (List UInt8)) (x : List UInt8), (∀ y ∈ x :: xs, c ∉ y) → cutL c (x ++ slash c xs) = x :: xs
  | [], x, h => by
    rw [show slash c [] = [] from rfl, List.append_nil]
    exact cutL_one c x (h x (by simp))
  | y :: ys, x, h => by
    have e : x ++ slash c (y :: ys) = x ++ c :: (y ++ slash c ys) := by simp [slash]
    rw [e, cutL_hit c x _ (h x (by simp)), cutL_put c ys y (fun z hz => h z (List.mem_cons_of_mem _ hz))]
theorem slash_inj {c : UInt8} {xs ys : List (List UInt8)} (hx : ∀ y ∈ xs, c ∉ y) (hy : ∀ y ∈ ys, c ∉ y) (h : slash c xs = slash c ys) : xs = ys := by
  cases xs with
  | nil =>
    cases ys with
    | nil => rfl
    | cons y ys => simp [slash] at h
  | cons x xs =>
    cases ys with
    | nil => simp [slash] at h
    | cons y ys =>
      have e1 : slash c (x :: xs) = c :: (x ++ slash c xs) := by simp [slash]
      have e2 : slash c (y :: ys) = c :: (y ++ slash c ys) := by simp [slash]
      rw [e1, e2] at h
      have h' := List.tail_eq_of_cons_eq h
      rw [← cutL_put c xs x hx, ← cutL_put c ys y hy, h']

/-- strings.Split at one byte. -/
theorem split_cut (c : UInt8) : ∀ (k : Nat) (s : List UInt8), Lib.count s [c] = k → Lib.splitK [c] 0 k s = cutL c s
  | 0, s, hk => by
    rw [Lib.count_one] at hk
    rw [cutL_one c s (List.count_eq_zero.1 hk)]
    rfl
  | k + 1, s, hk => by
    rcases Lib.index_spec s [c] with ⟨hm, _⟩ | ⟨i, hi, hil, ho, hno⟩
    · rw [Lib.count_miss hm] at hk; omega
    · have hne : ¬ (Lib.index s [c] == -1) = true := fun e => by have := beq_iff_eq.1 e; omega
      have hc := Lib.count_hit (by simp) hi
      rw [Lib.splitK, if_neg hne, hi]
      have e1 : ((i : Int)).toNat = i := by omega
      rw [e1]
      simp only [Nat.add_zero, List.length_cons, List.length_nil, Nat.zero_add] at hc ⊢
      rw [split_cut c k (s.drop (i + 1)) (by omega)]
      have hb := Lib.index_one s c
      rw [hi] at hb
      obtain ⟨h1, h2⟩ := Lib.indexByte_some hb.symm
      have hlt : i < s.length := by
        rcases Nat.lt_or_ge i s.length with h' | h'
        · exact h'
        · rw [List.getElem?_eq_none h'] at h1; cases h1
      have hsi : s[i] = c := by rw [List.getElem?_eq_getElem hlt] at h1; exact Option.some.inj h1
      have hs : s = s.take i ++ c :: s.drop (i + 1) := by
        conv => lhs; rw [← List.take_append_drop i s, List.drop_eq_getElem_cons hlt, hsi]
      have hfree : c ∉ s.take i := fun hm => by
        obtain ⟨j, hj⟩ := List.getElem?_of_mem hm
        rw [List.getElem?_take] at hj
        split at hj
        · exact h2 j (by assumption) hj
        · cases hj
      conv => rhs; rw [hs]
      rw [cutL_hit c _ _ hfree]

/-- A list of bytes as a text. -/
def ofL (l : List UInt8) : ByteArray := ⟨l.toArray⟩
theorem ofL_data (l : List UInt8) : (ofL l).data.toList = l := by simp [ofL]
theorem data_ofL (s : ByteArray) : ofL s.data.toList = s := by simp [ofL]
theorem ofL_ext {a b : ByteArray} (h : a.data.toList = b.data.toList) : a = b := by
  rw [← data_ofL a, ← data_ofL b, h]
theorem ofL_size (l : List UInt8) : (ofL l).size = l.length := by simp [ofL, ByteArray.size]

/-- The pieces of a text. -/
def cutB (c : UInt8) (s : ByteArray) : List ByteArray := (cutL c s.data.toList).map ofL
theorem map_data_ofL (xs : List (List UInt8)) : (xs.map ofL).map (·.data.toList) = xs := by
  rw [List.map_map]
  conv => rhs; rw [← List.map_id xs]
  apply List.map_congr_left
  intro a _
  exact ofL_data a
theorem map_ofL_data (xs : List ByteArray) : (xs.map (·.data.toList)).map ofL = xs := by
  rw [List.map_map]
  conv => rhs; rw [← List.map_id xs]
  apply List.map_congr_left
  intro a _
  exact data_ofL a
theorem splitB_cut (c : UInt8) (s : ByteArray) : Lib.splitB ⟨#[c]⟩ 0 (Lib.countB s ⟨#[c]⟩) s = cutB c s := by
  have h := Lib.splitB_data ⟨#[c]⟩ 0 (Lib.countB s ⟨#[c]⟩) s
  have e : (⟨#[c]⟩ : ByteArray).data.toList = [c] := rfl
  rw [e, split_cut c _ s.data.toList rfl] at h
  rw [cutB, ← h, map_ofL_data]

/-- The text of names, each behind a byte. -/
def slashB (c : UInt8) (xs : List ByteArray) : ByteArray := ofL (slash c (xs.map (·.data.toList)))
theorem slashB_nil (c : UInt8) : slashB c [] = ByteArray.empty := rfl
theorem slashB_snoc (c : UInt8) (xs : List ByteArray) (x : ByteArray) : slashB c (xs ++ [x]) = slashB c xs ++ (⟨#[c]⟩ ++ x) := by
  apply ofL_ext
  rw [bytes_append, bytes_append]
  simp [slashB, ofL_data, slash]

/-- No name holds a slash. -/
theorem name_free {s : ByteArray} (h : nameB s = true) : (47 : UInt8) ∉ s.data.toList := by
  intro hm
  obtain ⟨i, hi, he⟩ := List.mem_iff_getElem.1 hm
  have hi' : i < s.size := by rw [← size_data]; exact hi
  have e : s[i] = 47 := by rw [← he]; rfl
  have := nameB_no hi' (.inl (by rw [e]; decide))
  rw [this] at h
  cases h

/-- The path of names. -/
def pathT (xs : List ByteArray) : ByteArray := if xs = [] then ⟨#[47]⟩ else slashB 47 xs
def pathOfB (xs : List ByteArray) : Bool := decide (xs.length ≤ 4) && xs.all nameB
def pathOfT (xs : List ByteArray) : ByteArray := if pathOfB xs = true then pathT xs else ByteArray.empty
/-- The names of a text that may be a path. -/
def namesOf (s : ByteArray) : List ByteArray := if s = ⟨#[47]⟩ then [] else (cutB 47 s).drop 1
def pathB (s : ByteArray) : Bool := decide (s = ⟨#[47]⟩) || (decide (s.data.toList.head? = some 47) && pathOfB (namesOf s))
def namesT (s : ByteArray) : List ByteArray := if pathB s = true then namesOf s else []

/-- "/" and the names, joined. -/
theorem pathT_join (xs : List ByteArray) : (⟨#[47]⟩ : ByteArray) ++ ofL (Lib.join (xs.map (·.data.toList)) [47]) = pathT xs := by
  apply ofL_ext
  rw [bytes_append, ofL_data]
  cases xs with
  | nil => simp [pathT, Lib.join_nil]
  | cons x r =>
    rw [List.map_cons, Lib.join_cons]
    simp [pathT, slashB, ofL_data, slash, Lib.joinTail, Function.comp_def]

/-- What stands behind the slash. -/
theorem head_cut {s : ByteArray} (h : s.data.toList.head? = some 47) : ∃ r, s.data.toList = 47 :: r ∧ (cutB 47 s).drop 1 = cutB 47 (ofL r) := by
  cases hs : s.data.toList with
  | nil => rw [hs] at h; cases h
  | cons b r =>
    rw [hs] at h
    simp at h
    subst h
    refine ⟨r, rfl, ?_⟩
    have : cutL 47 (47 :: r) = [] :: cutL 47 r := cutL_hit 47 [] r (by simp)
    simp [cutB, hs, this, ofL_data]

theorem cutB_ne (c : UInt8) (s : ByteArray) : cutB c s ≠ [] := by
  intro h
  have : slash c (cutL c s.data.toList) = slash c [] := by
    have h' : cutL c s.data.toList = [] := by simpa [cutB] using h
    rw [h']
  rw [cutL_slash] at this
  simp [slash] at this

/-- The names of a text, put together, are the text. -/
theorem pathT_names {s : ByteArray} (h : s.data.toList.head? = some 47) : pathT (namesOf s) = s := by
  by_cases h1 : s = ⟨#[47]⟩
  · subst h1
    simp [namesOf, pathT]
  · obtain ⟨r, hr, hd⟩ := head_cut h
    rw [namesOf, if_neg h1, hd, pathT, if_neg (cutB_ne 47 _)]
    apply ofL_ext
    rw [slashB, ofL_data, cutB, map_data_ofL, ofL_data, cutL_slash, hr]

theorem all_nameB {xs : List ByteArray} (h : pathOfB xs = true) : xs.length ≤ 4 ∧ ∀ x ∈ xs, nameB x = true := by
  simp only [pathOfB, Bool.and_eq_true, decide_eq_true_eq, List.all_eq_true] at h
  exact h

theorem slash_len (c : UInt8) : ∀ (xs : List ByteArray), (∀ x ∈ xs, x.size ≤ 4) → (slash c (xs.map (·.data.toList))).length ≤ 5 * xs.length
  | [], _ => by simp [slash]
  | x :: r, h => by
    have ih := slash_len c r (fun y hy => h y (List.mem_cons_of_mem _ hy))
    have hx : x.data.toList.length ≤ 4 := by rw [size_data]; exact h x (by simp)
    simp only [slash, List.map_cons, List.flatten_cons, List.length_append, List.length_cons] at ih ⊢
    omega
theorem pathT_size {xs : List ByteArray} (h : pathOfB xs = true) : (pathT xs).size ≤ 20 := by
  obtain ⟨h1, h2⟩ := all_nameB h
  unfold pathT
  split
  · decide
  · have := slash_len 47 xs (fun x hx => (nameB_size (h2 x hx)).2)
    rw [slashB, ofL_size]
    omega
/-- A path is no longer than 20 bytes. -/
theorem pathB_size {s : ByteArray} (h : pathB s = true) : s.size ≤ 20 := by
  simp only [pathB, Bool.or_eq_true, Bool.and_eq_true, decide_eq_true_eq] at h
  rcases h with rfl | ⟨h1, h2⟩
  · decide
  · rw [← pathT_names h1]
    exact pathT_size h2
/-- The names of a path of names. -/
theorem names_pathT {xs : List ByteArray} (h : ∀ x ∈ xs, nameB x = true) : namesOf (pathT xs) = xs := by
  cases xs with
  | nil => simp [pathT, namesOf]
  | cons x r =>
    have hx := nameB_size (h x (by simp))
    have e : pathT (x :: r) = slashB 47 (x :: r) := by simp [pathT]
    have hd : (pathT (x :: r)).data.toList = 47 :: (x.data.toList ++ slash 47 (r.map (·.data.toList))) := by
      rw [e, slashB, ofL_data]; simp [slash]
    have hne : pathT (x :: r) ≠ ⟨#[47]⟩ := fun e => by
      rw [e] at hd
      have hl := congrArg List.length hd
      have := size_data x
      have h1 : (⟨#[47]⟩ : ByteArray).data.toList.length = 1 := rfl
      rw [h1, List.length_cons, List.length_append] at hl
      omega
    obtain ⟨q, hq, hc⟩ := head_cut (s := pathT (x :: r)) (by rw [hd]; rfl)
    rw [namesOf, if_neg hne, hc]
    rw [hd] at hq
    have hq' := List.tail_eq_of_cons_eq hq
    rw [cutB, ofL_data, ← hq', cutL_put 47 _ _ (fun y hy => by
      rw [← List.map_cons (f := fun b : ByteArray => b.data.toList)] at hy
      obtain ⟨z, hz, rfl⟩ := List.mem_map.1 hy
      exact name_free (h z hz)), ← List.map_cons (f := fun b : ByteArray => b.data.toList), map_ofL_data]

theorem path_head (xs : List ByteArray) : (pathT xs).data.toList.head? = some 47 := by
  unfold pathT
  split
  · rfl
  · next h =>
    cases xs with
    | nil => exact absurd rfl h
    | cons x r => rw [slashB, ofL_data]; simp [slash]
/-- A path of names is a path. -/
theorem pathB_pathT {xs : List ByteArray} (h : pathOfB xs = true) : pathB (pathT xs) = true := by
  have h2 := (all_nameB h).2
  simp [pathB, path_head, names_pathT h2, h]
theorem pathB_cases {s : ByteArray} (h : pathB s = true) : s.data.toList.head? = some 47 ∧ pathOfB (namesOf s) = true := by
  simp only [pathB, Bool.or_eq_true, Bool.and_eq_true, decide_eq_true_eq] at h
  rcases h with rfl | h
  · exact ⟨rfl, rfl⟩
  · exact h

end Go.Proofs.YtafadedacbjioaaGreatDoor

/- Texts cut at a byte, and the texts of entries and of records, in plain Lean; no program in sight. -/
namespace Go.Proofs.YtafadedacbjioaaGreatDoor
open Go.RowKit
set_option linter.unusedVariables false
set_option linter.unusedSimpArgs false

/-! Cutting. -/
theorem cut_two {c : UInt8} : ∀ {p q x y : List UInt8}, c ∉ p → c ∉ q → p ++ c :: x = q ++ c :: y → p = q ∧ x = y
  | [], [], x, y, _, _, h => by simp at h; exact ⟨rfl, h⟩
  | [], b :: q, x, y, _, hq, h => by simp at h; exact absurd (h.1 ▸ List.mem_cons_self ..) hq
  | a :: p, [], x, y, hp, _, h => by simp at h; exact absurd (h.1 ▸ List.mem_cons_self ..) hp
  | a :: p, b :: q, x, y, hp, hq, h => by
    simp only [List.cons_append, List.cons.injEq] at h
    obtain ⟨rfl, h⟩ := h
    obtain ⟨rfl, rfl⟩ := cut_two (fun m => hp (List.mem_cons_of_mem _ m)) (fun m => hq (List.mem_cons_of_mem _ m)) h
    exact ⟨rfl, rfl⟩
/-- A text holds a byte or not: at its first place. -/
theorem first_at (c : UInt8) : ∀ s : List UInt8, c ∉ s ∨ ∃ p x, s = p ++ c :: x ∧ c ∉ p
  | [] => .inl (by simp)
  | b :: r => by
    by_cases hb : c = b
    · exact .inr ⟨[], r, by simp [hb], by simp⟩
    · rcases first_at c r with h | ⟨p, x, rfl, hp⟩
      · exact .inl (by simp [hb, h])
      · exact .inr ⟨b :: p, x, rfl, by simp [hb, hp]⟩

theorem dec_lt (u : Nat) : ∀ b ∈ Lib.decDigits u, 48 ≤ b.toNat ∧ b.toNat ≤ 57 := fun b hb => digB_iff.1 (dec_digits u b hb)
theorem dec_free (u : Nat) (c : UInt8) (hc : c.toNat < 48 ∨ 57 < c.toNat) : c ∉ Lib.decDigits u := fun hm => by
  have := dec_lt u c hm
  omega
theorem dec_inj {u v : Nat} (h : Lib.decDigits u = Lib.decDigits v) : u = v := by
  have := congrArg valL h
  rwa [dec_val, dec_val] at this
/-- A number's text, of a number that is not below 0. -/
def decL (n : Int) : List UInt8 := Lib.decDigits n.toNat
def decT (n : Int) : ByteArray := ofL (decL n)
theorem numT_dec {n : Int} (h0 : 0 ≤ n) (h1 : n ≤ 999999999) : numT n = decT n := numT_in h0 h1
theorem decT_data (n : Int) : (decT n).data.toList = decL n := ofL_data _
theorem decL_inj {a b : Int} (h0 : 0 ≤ a) (h1 : 0 ≤ b) (h : decL a = decL b) : a = b := by
  have := dec_inj h
  omega
theorem decL_free {n : Int} {c : UInt8} (hc : c.toNat < 48 ∨ 57 < c.toNat) : c ∉ decL n := dec_free _ c hc
theorem decL_len {n : Int} (h0 : 0 ≤ n) (h1 : n ≤ 999999999) : 1 ≤ (decL n).length ∧ (decL n).length ≤ 9 := ⟨dec_pos _, dec_nine (by omega)⟩
theorem numB_data {s : ByteArray} (h : numB s = true) : s.data.toList = decL (numV s) := by
  have hb := numV_in (s := s)
  conv => lhs; rw [← numB_put h]
  rw [numT_dec hb.1 hb.2, decT_data]
theorem numB_dec {s : ByteArray} {n : Int} (h0 : 0 ≤ n) (h1 : n ≤ 999999999) (h : s.data.toList = decL n) : numB s = true ∧ numV s = n := by
  have e : s = numT n := by
    rw [numT_dec h0 h1]
    exact ofL_ext (by rw [decT_data, h])
  rw [e]
  exact numT_get h0 h1

/-! Entries. -/
def entL (e : Ent) : List UInt8 := e.name.data.toList ++ 61 :: (decL e.id ++ [59])
def entsL : List Ent → List UInt8
  | [] => []
  | e :: r => entL e ++ entsL r
def entsT (l : List Ent) : ByteArray := ofL (entsL l)
theorem entsL_app (a b : List Ent) : entsL (a ++ b) = entsL a ++ entsL b := by
  induction a with
  | nil => rfl
  | cons e r ih => rw [List.cons_append, entsL, entsL, ih, List.append_assoc]
theorem name_low {s : ByteArray} (h : nameB s = true) {c : UInt8} (hc : c.toNat < 97) : c ∉ s.data.toList := fun hm => by
  obtain ⟨k, hk, e⟩ := List.getElem_of_mem hm
  have hk' : k < s.size := by rw [Array.length_toList] at hk; exact hk
  have hx : s[k] = c := by rw [← e]; rfl
  have := nameB_no (s := s) hk' (.inl (by rw [hx]; exact hc))
  rw [h] at this
  cases this
theorem okFrom_each : ∀ (l : List Ent) (p : Option ByteArray), okFrom p l = true → ∀ e ∈ l, nameB e.name = true ∧ inB e.id 1 15 = true
  | [], _, _, e, he => by cases he
  | x :: r, p, h, e, he => by
    simp only [okFrom, Bool.and_eq_true] at h
    rcases List.mem_cons.1 he with rfl | he
    · exact ⟨h.1, h.2.1⟩
    · exact okFrom_each r _ h.2.2.2 e he
theorem ent_ok {l : List Ent} (h : entriesOkB l = true) : (∀ e ∈ l, nameB e.name = true ∧ 1 ≤ e.id ∧ e.id ≤ 15) ∧ l.length ≤ 12 := by
  simp only [entriesOkB, Bool.and_eq_true, decide_eq_true_eq] at h
  have h1 := okFrom_each l none h.1
  exact ⟨fun e he => ⟨(h1 e he).1, (inB_true (h1 e he).2).1, (inB_true (h1 e he).2).2⟩, h.2⟩
theorem entL_len {e : Ent} (h : nameB e.name = true) (h0 : 1 ≤ e.id) (h1 : e.id ≤ 15) : (entL e).length ≤ 8 := by
  have hs := nameB_size h
  have hd := dec_len 1 e.id.toNat (by simp; omega)
  have : e.name.data.toList.length = e.name.size := Array.length_toList
  unfold entL decL
  simp only [List.length_append, List.length_cons, List.length_nil]
  omega
theorem entsL_len : ∀ {l : List Ent}, (∀ e ∈ l, nameB e.name = true ∧ 1 ≤ e.id ∧ e.id ≤ 15) → (entsL l).length ≤ 8 * l.length
  | [], _ => by simp [entsL]
  | e :: r, h => by
    have h1 := h e (List.mem_cons_self ..)
    have h2 := entL_len h1.1 h1.2.1 h1.2.2
    have h3 := entsL_len (fun x hx => h x (List.mem_cons_of_mem _ hx))
    rw [entsL, List.length_append, List.length_cons]
    omega
theorem entsT_size {l : List Ent} (h : entriesOkB l = true) : (entsT l).size ≤ 96 := by
  have := entsL_len (ent_ok h).1
  have := (ent_ok h).2
  rw [entsT, ofL_size]
  omega

/-- What is read so far out of a text: 'out', and 'rest' is left; every list that is the text's begins so. -/
def EntAt' (s : List UInt8) (out : List Ent) (rest : List UInt8) : Prop :=
  entsL out ++ rest = s ∧ ∀ l, entriesOkB l = true → entsL l = s → ∃ m, l = out ++ m ∧ entsL m = rest
/-- The entries that a text is the text of. -/
def EntG (s : ByteArray) (l : List Ent) (b : Bool) : Prop :=
  (b = true ∧ entriesOkB l = true ∧ entsL l = s.data.toList) ∨ (b = false ∧ l = [] ∧ ∀ m, entriesOkB m = true → entsL m ≠ s.data.toList)
theorem entAt_start (s : List UInt8) : EntAt' s [] s := ⟨rfl, fun l _ h => ⟨l, rfl, h⟩⟩
/-- How a text that is one of entries begins. -/
theorem ent_begin {s rest : List UInt8} {out : List Ent} (h : EntAt' s out rest) (hr : rest ≠ []) {l : List Ent} (hl : entriesOkB l = true) (he : entsL l = s) :
    ∃ e m, rest = e.name.data.toList ++ 61 :: (decL e.id ++ 59 :: entsL m) ∧ l = out ++ e :: m ∧ out.length < 12 ∧ nameB e.name = true ∧ 1 ≤ e.id ∧ e.id ≤ 15 := by
  obtain ⟨m, hm, hme⟩ := h.2 l hl he
  cases m with
  | nil => exact absurd hme.symm hr
  | cons e m =>
    have ho := ent_ok hl
    have h1 := ho.1 e (by rw [hm]; simp)
    have h2 := ho.2
    rw [hm] at h2
    simp only [List.length_append, List.length_cons] at h2
    refine ⟨e, m, ?_, hm, by omega, h1.1, h1.2.1, h1.2.2⟩
    rw [← hme, entsL, entL]
    simp
theorem entAt_next {s rest tail : List UInt8} {out : List Ent} {name num : ByteArray} (h : EntAt' s out rest) (hr : rest = name.data.toList ++ 61 :: (num.data.toList ++ 59 :: tail)) (h1 : (61 : UInt8) ∉ name.data.toList) (h2 : (59 : UInt8) ∉ name.data.toList) (hn : numB num = true) :
    EntAt' s (out ++ [⟨name, numV num⟩]) tail := by
  have hd := numB_data hn
  have hv := numV_in (s := num)
  refine ⟨?_, fun l hl he => ?_⟩
  · rw [← h.1, hr, entsL_app, hd]
    simp [entsL, entL]
  · obtain ⟨e, m, e1, e2, _, e4, e5, e6⟩ := ent_begin h (by rw [hr]; simp) hl he
    rw [hr] at e1
    obtain ⟨q1, q2⟩ := cut_two h1 (name_low e4 (by decide)) e1
    have f1 : (59 : UInt8) ∉ num.data.toList := by rw [hd]; exact decL_free (by decide)
    obtain ⟨q3, q4⟩ := cut_two f1 (decL_free (by decide)) q2
    rw [hd] at q3
    have q5 := decL_inj hv.1 (by omega) q3
    have q6 := ofL_ext q1
    refine ⟨m, ?_, q4.symm⟩
    rw [e2, q6, q5]
    simp
theorem entAt_end {s : ByteArray} {out : List Ent} (h : EntAt' s.data.toList out []) : (entriesOkB out = true → EntG s out true) ∧ (entriesOkB out = false → EntG s [] false) := by
  have h1 := h.1
  rw [List.append_nil] at h1
  refine ⟨fun hb => .inl ⟨rfl, hb, h1⟩, fun hb => .inr ⟨rfl, rfl, fun l hl he => ?_⟩⟩
  obtain ⟨m, hm, hme⟩ := h.2 l hl he
  cases m with
  | nil => rw [List.append_nil] at hm; rw [hm, hb] at hl; cases hl
  | cons e m => rw [entsL, entL] at hme; simp at hme
theorem entG_one {s : ByteArray} {l l' : List Ent} {b b' : Bool} (h : EntG s l b) (h' : EntG s l' b') : b = b' ∧ l = l' := by
  rcases h with ⟨rfl, h1, h2⟩ | ⟨rfl, rfl, h1⟩
  · rcases h' with ⟨rfl, h1', h2'⟩ | ⟨rfl, rfl, h1'⟩
    · refine ⟨rfl, ?_⟩
      have key : ∀ (a c : List Ent), (∀ e ∈ a, nameB e.name = true ∧ 1 ≤ e.id ∧ e.id ≤ 15) → (∀ e ∈ c, nameB e.name = true ∧ 1 ≤ e.id ∧ e.id ≤ 15) → entsL a = entsL c → a = c := by
        intro a
        induction a with
        | nil =>
          intro c _ _ he
          cases c with
          | nil => rfl
          | cons e m => simp [entsL, entL] at he
        | cons x a ih =>
          intro c hx hc he
          cases c with
          | nil => simp [entsL, entL] at he
          | cons e m =>
            have x1 := hx x (List.mem_cons_self ..)
            have e1 := hc e (List.mem_cons_self ..)
            simp only [entsL, entL, List.append_assoc, List.cons_append, List.nil_append] at he
            obtain ⟨q1, q2⟩ := cut_two (name_low x1.1 (by decide)) (name_low e1.1 (by decide)) he
            obtain ⟨q3, q4⟩ := cut_two (decL_free (by decide)) (decL_free (by decide)) q2
            have q5 := decL_inj (by omega) (by omega) q3
            have q6 := ofL_ext q1
            have q7 := ih m (fun y hy => hx y (List.mem_cons_of_mem _ hy)) (fun y hy => hc y (List.mem_cons_of_mem _ hy)) q4
            obtain ⟨xn, xi⟩ := x
            obtain ⟨en, ei⟩ := e
            dsimp only at q5 q6
            rw [q5, q6, q7]
      exact key l l' (ent_ok h1).1 (ent_ok h1').1 (h2.trans h2'.symm)
    · exact absurd h2 (h1' l h1)
  · rcases h' with ⟨rfl, h1', h2'⟩ | ⟨rfl, rfl, h1'⟩
    · exact absurd h2' (h1 l' h1')
    · exact ⟨rfl, rfl⟩
theorem entG_put {l : List Ent} (h : entriesOkB l = true) : EntG (entsT l) l true := .inl ⟨rfl, h, by rw [entsT, ofL_data]⟩

/-! Records. -/
def fldL (s : ByteArray) : List UInt8 := decL (s.size : Int) ++ 58 :: s.data.toList
def recL : List ByteArray → List UInt8
  | [] => []
  | s :: r => fldL s ++ recL r
def recT (l : List ByteArray) : ByteArray := ofL (recL l)
def recB (l : List ByteArray) : Bool := decide (l.length ≤ 60) && decide ((recL l).length ≤ 2048)
theorem recB_iff {l : List ByteArray} : recB l = true ↔ l.length ≤ 60 ∧ (recL l).length ≤ 2048 := by simp [recB]
theorem recL_app (a b : List ByteArray) : recL (a ++ b) = recL a ++ recL b := by
  induction a with
  | nil => rfl
  | cons e r ih => rw [List.cons_append, recL, recL, ih, List.append_assoc]
def RecAt (s : List UInt8) (out : List ByteArray) (rest : List UInt8) : Prop :=
  recL out ++ rest = s ∧ ∀ l, recB l = true → recL l = s → ∃ m, l = out ++ m ∧ recL m = rest
def RecG (s : ByteArray) (l : List ByteArray) (b : Bool) : Prop :=
  (b = true ∧ recB l = true ∧ recL l = s.data.toList) ∨ (b = false ∧ l = [] ∧ ∀ m, recB m = true → recL m ≠ s.data.toList)
theorem recAt_start (s : List UInt8) : RecAt s [] s := ⟨rfl, fun l _ h => ⟨l, rfl, h⟩⟩
theorem rec_begin {s rest : List UInt8} {out : List ByteArray} (h : RecAt s out rest) (hr : rest ≠ []) {l : List ByteArray} (hl : recB l = true) (he : recL l = s) :
    ∃ (e : ByteArray) (m : List ByteArray), rest = decL (e.size : Int) ++ 58 :: (e.data.toList ++ recL m) ∧ l = out ++ e :: m ∧ out.length < 60 ∧ e.size ≤ 2048 := by
  obtain ⟨m, hm, hme⟩ := h.2 l hl he
  cases m with
  | nil => exact absurd hme.symm hr
  | cons e m =>
    obtain ⟨h2, h3⟩ := recB_iff.1 hl
    rw [hm] at h2 h3
    simp only [List.length_append, List.length_cons] at h2
    refine ⟨e, m, ?_, hm, by omega, ?_⟩
    · rw [← hme, recL, fldL]
      simp
    · rw [recL_app, recL, fldL] at h3
      simp only [List.length_append, List.length_cons, Array.length_toList] at h3
      have : e.data.size = e.size := rfl
      omega
theorem recAt_next {s rest tail : List UInt8} {out : List ByteArray} {e : ByteArray} (h : RecAt s out rest) (hr : rest = decL (e.size : Int) ++ 58 :: (e.data.toList ++ tail)) : RecAt s (out ++ [e]) tail := by
  refine ⟨?_, fun l hl he => ?_⟩
  · rw [← h.1, hr, recL_app]
    simp [recL, fldL]
  · obtain ⟨x, m, e1, e2, _, _⟩ := rec_begin h (by rw [hr]; simp) hl he
    rw [hr] at e1
    obtain ⟨q1, q2⟩ := cut_two (decL_free (by decide)) (decL_free (by decide)) e1
    have q3 := decL_inj (by omega) (by omega) q1
    have q4 : e.data.toList.length = x.data.toList.length := by
      rw [Array.length_toList, Array.length_toList]
      have a1 : e.data.size = e.size := rfl
      have a2 : x.data.size = x.size := rfl
      omega
    obtain ⟨q5, q6⟩ := List.append_inj q2 q4
    refine ⟨m, ?_, q6.symm⟩
    rw [e2, ofL_ext q5]
    simp
theorem recAt_end {s : ByteArray} {out : List ByteArray} (h : RecAt s.data.toList out []) : (recB out = true → RecG s out true) ∧ (recB out = false → RecG s [] false) := by
  have h1 := h.1
  rw [List.append_nil] at h1
  refine ⟨fun hb => .inl ⟨rfl, hb, h1⟩, fun hb => .inr ⟨rfl, rfl, fun l hl he => ?_⟩⟩
  obtain ⟨m, hm, hme⟩ := h.2 l hl he
  cases m with
  | nil => rw [List.append_nil] at hm; rw [hm, hb] at hl; cases hl
  | cons e m => rw [recL, fldL] at hme; simp at hme
theorem recL_inj : ∀ {a b : List ByteArray}, recL a = recL b → a = b
  | [], [], _ => rfl
  | [], e :: m, h => by simp [recL, fldL] at h
  | x :: a, [], h => by simp [recL, fldL] at h
  | x :: a, e :: m, h => by
    simp only [recL, fldL, List.append_assoc, List.cons_append] at h
    obtain ⟨q1, q2⟩ := cut_two (decL_free (by decide)) (decL_free (by decide)) h
    have q3 := decL_inj (by omega) (by omega) q1
    have q4 : x.data.toList.length = e.data.toList.length := by
      rw [Array.length_toList, Array.length_toList]
      have a1 : e.data.size = e.size := rfl
      have a2 : x.data.size = x.size := rfl
      omega
    obtain ⟨q5, q6⟩ := List.append_inj q2 q4
    rw [ofL_ext q5, recL_inj q6]
theorem recG_one {s : ByteArray} {l l' : List ByteArray} {b b' : Bool} (h : RecG s l b) (h' : RecG s l' b') : b = b' ∧ l = l' := by
  rcases h with ⟨rfl, h1, h2⟩ | ⟨rfl, rfl, h1⟩
  · rcases h' with ⟨rfl, h1', h2'⟩ | ⟨rfl, rfl, h1'⟩
    · exact ⟨rfl, recL_inj (h2.trans h2'.symm)⟩
    · exact absurd h2 (h1' l h1)
  · rcases h' with ⟨rfl, h1', h2'⟩ | ⟨rfl, rfl, h1'⟩
    · exact absurd h2' (h1 l' h1')
    · exact ⟨rfl, rfl⟩

end Go.Proofs.YtafadedacbjioaaGreatDoor

/- How many pieces a node of so many bytes has: both texts return one number. -/
namespace Go.Proofs.YtafadedacbjioaaGreatDoor
open Go.RowKit

/-- How many bytes a piece of a kind has; 0 if there is no such kind. -/
def eachOf (kind : Int) : Int := if kind = 1 then 12 else if kind = 2 then 128 else 0
/-- How many pieces. -/
def piecesOf (kind size : Int) : Int := if eachOf kind = 0 then -1 else if inB size 0 (16 * eachOf kind) = true then (size + eachOf kind - 1) / eachOf kind else -1

theorem eachOf_cases (k : Int) : (k = 1 ∧ eachOf k = 12) ∨ (k = 2 ∧ eachOf k = 128) ∨ (k ≠ 1 ∧ k ≠ 2 ∧ eachOf k = 0) := by
  unfold eachOf
  by_cases h1 : k = 1
  · simp [h1]
  · by_cases h2 : k = 2
    · simp [h2]
    · simp [h1, h2]

theorem pieces_1 (s : Int) (h : inB s 0 192 = true) : piecesOf 1 s = (s + 12 - 1) / 12 := by simp [piecesOf, eachOf, h]
theorem pieces_1n (s : Int) (h : inB s 0 192 = false) : piecesOf 1 s = -1 := by simp [piecesOf, eachOf, h]
theorem pieces_2 (s : Int) (h : inB s 0 2048 = true) : piecesOf 2 s = (s + 128 - 1) / 128 := by simp [piecesOf, eachOf, h]
theorem pieces_2n (s : Int) (h : inB s 0 2048 = false) : piecesOf 2 s = -1 := by simp [piecesOf, eachOf, h]
theorem pieces_0 (k s : Int) (h1 : k ≠ 1) (h2 : k ≠ 2) : piecesOf k s = -1 := by simp [piecesOf, eachOf, h1, h2]

end Go.Proofs.YtafadedacbjioaaGreatDoor

/- Pointers: the hole, the valid one: both texts. -/
namespace Go.Proofs.YtafadedacbjioaaGreatDoor
open Go.RowKit
set_option linter.unusedVariables false

/-- A pointer's five numbers. -/
structure Pt where
  at_ : Int
  birth : Int
  size : Int
  sum : Int
  level : Int
def Pt.v (p : Pt) : Value := .agg #[.int .i64 p.at_, .int .i64 p.birth, .int .i64 p.size, .int .i64 p.sum, .int .i64 p.level]
def holeB (p : Pt) : Bool := p.at_ == 0 && (p.birth == 0 && (p.size == 0 && (p.sum == 0 && p.level == 0)))

theorem specPtrHole_any (p : Pt) (w : World) :
    Calls Tryz.prog 58 #[p.v] w fun e w' => e = .returned (.bool (holeB p)) ∧ Below w.heap.size w w' := by
  obtain ⟨a, b, s, u, l⟩ := p
  unfold Pt.v holeB
  dsimp only
  go_enter Tryz.func58, Tryz.ntmps58
  go_wp2_with fail
  all_goals go_ret
  all_goals exact ⟨ret_bool (by simp [*]), (Below.refl _ _).alloc (Nat.le_refl _) _⟩

theorem ptrHole_any (p : Pt) (w : World) :
    Calls Tryz.prog 59 #[p.v] w fun e w' => e = .returned (.bool (holeB p)) ∧ Below w.heap.size w w' := by
  obtain ⟨a, b, s, u, l⟩ := p
  unfold Pt.v holeB
  dsimp only
  go_enter Tryz.func59, Tryz.ntmps59
  go_wp2_with fail
  all_goals go_ret
  all_goals exact ⟨ret_bool (by simp [*]), (Below.refl _ _).alloc (Nat.le_refl _) _⟩

/-- A pointer that a tree may hold. -/
def ptrB (p : Pt) : Bool := holeB p || (inB p.at_ 8 63 && (inB p.birth 1 900 && (inB p.size 1 128 && (inB p.sum 0 99460728 && inB p.level 0 2))))

theorem isRow_any (n : Int) (w : World) : Calls Tryz.prog 83 #[.int .i64 n] w fun e w' => e = .returned (.bool (inB n 8 63)) ∧ w = w' := by
  go_enter Tryz.func83, Tryz.ntmps83
  go_wp2_with (go_at_call 56; refine (within_any _ _ _ _).mono ?_; rintro e w' ⟨rfl, rfl⟩)
  go_ret
  exact ⟨rfl, rfl⟩
theorem l2Row_any (n : Int) (w : World) : Calls Tryz.prog 87 #[.int .i64 n] w fun e w' => e = .returned (.bool (inB n 8 63)) ∧ w = w' := by
  go_enter Tryz.func87, Tryz.ntmps87
  go_wp2_with (go_at_call 54; refine (l6In_any _ _ _ _).mono ?_; rintro e w' ⟨rfl, rfl⟩)
  go_ret
  exact ⟨rfl, rfl⟩

theorem ptrOk_any (p : Pt) (w : World) :
    Calls Tryz.prog 69 #[p.v] w fun e w' => e = .returned (.bool (ptrB p)) ∧ Below w.heap.size w w' := by
  have hh := Lib.hid (ptrHole_any p)
  obtain ⟨a, b, s, u, l⟩ := p
  unfold Pt.v ptrB at *
  dsimp only
  go_enter Tryz.func69, Tryz.ntmps69
  go_wp2_with (first
    | (go_at_call 59; refine (hh.out _).mono ?_; rintro e w1 ⟨rfl, hb1⟩; obtain ⟨c1, f1⟩ := bcell hb1)
    | (go_at_call 83; refine (isRow_any _ _).mono ?_; rintro e w' ⟨rfl, rfl⟩)
    | (go_at_call 56; refine (within_any _ _ _ _).mono ?_; rintro e w' ⟨rfl, rfl⟩))
  all_goals go_ret
  all_goals exact ⟨ret_bool (by simp [*]), by (repeat (first | assumption | exact Below.refl _ _ | refine below_alloc ?_ _ | refine Below.drew ?_ | refine below_drewN ?_ _ | refine below_set ?_ (by first | exact Nat.le_refl _ | omega | (simp; done) | (simp; omega)) _ | refine below_kp ?_ (by assumption) (by simp) | refine below_below ?_ (by assumption)))⟩

theorem specPtrOk_any (p : Pt) (w : World) :
    Calls Tryz.prog 74 #[p.v] w fun e w' => e = .returned (.bool (ptrB p)) ∧ Below w.heap.size w w' := by
  have hh := Lib.hid (specPtrHole_any p)
  obtain ⟨a, b, s, u, l⟩ := p
  unfold Pt.v ptrB at *
  dsimp only
  go_enter Tryz.func74, Tryz.ntmps74
  go_wp2_with (first
    | (go_at_call 58; refine (hh.out _).mono ?_; rintro e w1 ⟨rfl, hb1⟩; obtain ⟨c1, f1⟩ := bcell hb1)
    | (go_at_call 87; refine (l2Row_any _ _).mono ?_; rintro e w' ⟨rfl, rfl⟩)
    | (go_at_call 54; refine (l6In_any _ _ _ _).mono ?_; rintro e w' ⟨rfl, rfl⟩))
  all_goals go_ret
  all_goals exact ⟨ret_bool (by simp [*]), by (repeat (first | assumption | exact Below.refl _ _ | refine below_alloc ?_ _ | refine Below.drew ?_ | refine below_drewN ?_ _ | refine below_set ?_ (by first | exact Nat.le_refl _ | omega | (simp; done) | (simp; omega)) _ | refine below_kp ?_ (by assumption) (by simp) | refine below_below ?_ (by assumption)))⟩

/-- How deep a tree of so many places is. -/
def depthB (n : Int) : Int := if n ≤ 1 then 0 else if n ≤ 4 then 1 else 2
theorem depthOf_any (n : Int) (w : World) : Calls Tryz.prog 70 #[.int .i64 n] w fun e w' => e = .returned (.int .i64 (depthB n)) ∧ w = w' := by
  unfold depthB
  go_enter Tryz.func70, Tryz.ntmps70
  go_wp2
  all_goals go_ret
  all_goals exact ⟨ret_int (by simp [*]), rfl⟩
theorem l8Depth_any (n : Int) (w : World) : Calls Tryz.prog 75 #[.int .i64 n] w fun e w' => e = .returned (.int .i64 (depthB n)) ∧ w = w' := by
  unfold depthB
  go_enter Tryz.func75, Tryz.ntmps75
  go_wp2
  all_goals go_ret
  all_goals exact ⟨ret_int (by simp [*]), rfl⟩

/-- A node: its numbers. -/
structure Nd where
  kind : Int
  links : Int
  size : Int
  root : Pt
  depth : Int
  many : Int
def Nd.v (n : Nd) : Value := .agg #[.int .i64 n.kind, .int .i64 n.links, .int .i64 n.size, .int .i64 n.root.at_, .int .i64 n.root.birth, .int .i64 n.root.size, .int .i64 n.root.sum, .int .i64 n.root.level, .int .i64 n.depth, .int .i64 n.many]
def nodeB (n : Nd) : Bool := decide (0 ≤ piecesOf n.kind n.size) && (inB n.links 1 (if n.kind = 2 then 1 else 9) && (n.many == piecesOf n.kind n.size && (n.depth == depthB (piecesOf n.kind n.size) && (ptrB n.root && (holeB n.root || n.root.level == n.depth)))))

theorem chain6 (c1 c2 c3 c4 c5 c6 : Bool) : c1 = false ∨ (c1 = true ∧ c2 = false) ∨ (c1 = true ∧ c2 = true ∧ c3 = false) ∨ (c1 = true ∧ c2 = true ∧ c3 = true ∧ c4 = false) ∨ (c1 = true ∧ c2 = true ∧ c3 = true ∧ c4 = true ∧ c5 = true) ∨ (c1 = true ∧ c2 = true ∧ c3 = true ∧ c4 = true ∧ c5 = false ∧ c6 = true) ∨ (c1 = true ∧ c2 = true ∧ c3 = true ∧ c4 = true ∧ c5 = false ∧ c6 = false) := by
  cases c1 <;> cases c2 <;> cases c3 <;> cases c4 <;> cases c5 <;> cases c6 <;> simp

end Go.Proofs.YtafadedacbjioaaGreatDoor

/- The texts of pointers, in plain Lean; no program in sight. -/
namespace Go.Proofs.YtafadedacbjioaaGreatDoor
open Go.RowKit
set_option linter.unusedVariables false
set_option linter.unusedSimpArgs false

theorem cutA_dot {c : UInt8} {x r : List UInt8} (h : c ∉ x) : cutL c (x ++ c :: r) = x :: cutL c r := cutL_hit c x r h

/-- A pointer's text. -/
def ptrL (p : Pt) : List UInt8 :=
  if holeB p = true then [45] else decL p.at_ ++ 46 :: (decL p.birth ++ 46 :: (decL p.size ++ 46 :: (decL p.sum ++ 46 :: decL p.level)))
def ptrT (p : Pt) : ByteArray := if ptrB p = true then ofL (ptrL p) else ⟨#[]⟩
def hole : Pt := ⟨0, 0, 0, 0, 0⟩
theorem hole_hole : holeB hole = true := rfl
theorem hole_eq {p : Pt} (h : holeB p = true) : p = hole := by
  obtain ⟨a, b, c, d, e⟩ := p
  simp only [holeB, Bool.and_eq_true, beq_iff_eq] at h
  obtain ⟨rfl, rfl, rfl, rfl, rfl⟩ := h
  rfl
theorem ptr_bounds {p : Pt} (h : ptrB p = true) : 0 ≤ p.at_ ∧ p.at_ ≤ 999999999 ∧ 0 ≤ p.birth ∧ p.birth ≤ 999999999 ∧ 0 ≤ p.size ∧ p.size ≤ 999999999 ∧ 0 ≤ p.sum ∧ p.sum ≤ 999999999 ∧ 0 ≤ p.level ∧ p.level ≤ 999999999 := by
  cases hh : holeB p
  · simp only [ptrB, hh, Bool.false_or, Bool.and_eq_true] at h
    obtain ⟨h1, h2, h3, h4, h5⟩ := h
    have := inB_true h1
    have := inB_true h2
    have := inB_true h3
    have := inB_true h4
    have := inB_true h5
    omega
  · rw [hole_eq hh]
    simp [hole]
theorem dec_ne_dash {n : Int} {r : List UInt8} : [45] ≠ decL n ++ r := fun e => by
  have h1 : 1 ≤ (decL n).length := dec_pos _
  cases hd : decL n with
  | nil => rw [hd] at h1; simp at h1
  | cons b m =>
    rw [hd] at e
    simp only [List.cons_append, List.cons.injEq] at e
    have : b ∈ decL n := by rw [hd]; exact List.mem_cons_self ..
    rw [← e.1] at this
    exact decL_free (by decide) this
theorem ptrL_inj {p q : Pt} (hp : ptrB p = true) (hq : ptrB q = true) (h : ptrL p = ptrL q) : p = q := by
  have b1 := ptr_bounds hp
  have b2 := ptr_bounds hq
  cases h1 : holeB p
  · cases h2 : holeB q
    · simp only [ptrL, h1, h2, Bool.false_eq_true, if_false] at h
      have f : ∀ {n : Int}, (46 : UInt8) ∉ decL n := decL_free (by decide)
      obtain ⟨e1, h⟩ := cut_two f f h
      obtain ⟨e2, h⟩ := cut_two f f h
      obtain ⟨e3, h⟩ := cut_two f f h
      obtain ⟨e4, e5⟩ := cut_two f f h
      have k1 := decL_inj (by omega) (by omega) e1
      have k2 := decL_inj (by omega) (by omega) e2
      have k3 := decL_inj (by omega) (by omega) e3
      have k4 := decL_inj (by omega) (by omega) e4
      have k5 := decL_inj (by omega) (by omega) e5
      clear e1 e2 e3 e4 e5 b1 b2 hp hq h h1 h2
      obtain ⟨a, b, c, d, e⟩ := p
      obtain ⟨a', b', c', d', e'⟩ := q
      dsimp only at k1 k2 k3 k4 k5
      subst k1 k2 k3 k4 k5
      rfl
    · simp only [ptrL, h1, h2, Bool.false_eq_true, if_false, if_true] at h
      exact absurd h.symm dec_ne_dash
  · cases h2 : holeB q
    · simp only [ptrL, h1, h2, Bool.false_eq_true, if_false, if_true] at h
      exact absurd h dec_ne_dash
    · rw [hole_eq h1, hole_eq h2]
/-- A pointer's text is cut at its dots into its numbers. -/
theorem ptr_cut {p : Pt} (h : holeB p = false) : cutL 46 (ptrL p) = [decL p.at_, decL p.birth, decL p.size, decL p.sum, decL p.level] := by
  have f : ∀ {n : Int}, (46 : UInt8) ∉ decL n := decL_free (by decide)
  simp only [ptrL, h, Bool.false_eq_true, if_false]
  rw [cutL_hit 46 _ _ f, cutL_hit 46 _ _ f, cutL_hit 46 _ _ f, cutL_hit 46 _ _ f, cutL_one 46 _ f]
theorem cutL_back {c : UInt8} {s : List UInt8} {xs : List (List UInt8)} (h : cutL c s = xs) : slash c xs = c :: s := by rw [← h]; exact cutL_slash c s
/-- Five texts that a text is cut into, each a number: then it is that pointer's text. -/
theorem ptr_five {s : ByteArray} {a b c d e : ByteArray} (h : cutB 46 s = [a, b, c, d, e]) (ha : numB a = true) (hb : numB b = true) (hc : numB c = true) (hd : numB d = true) (he : numB e = true) :
    s.data.toList = decL (numV a) ++ 46 :: (decL (numV b) ++ 46 :: (decL (numV c) ++ 46 :: (decL (numV d) ++ 46 :: decL (numV e)))) := by
  have h1 := congrArg (List.map (·.data.toList)) h
  rw [cutB, map_data_ofL] at h1
  have h2 := cutL_back h1
  simp only [List.map_cons, List.map_nil, slash, List.flatten_cons, List.flatten_nil, List.append_nil, List.cons_append, List.cons.injEq, true_and] at h2
  rw [← h2, numB_data ha, numB_data hb, numB_data hc, numB_data hd, numB_data he]
/-- The pointer that a text is the text of. -/
def PtrG (s : ByteArray) (p : Pt) (b : Bool) : Prop :=
  (b = true ∧ ptrB p = true ∧ ptrL p = s.data.toList) ∨ (b = false ∧ p = hole ∧ ∀ q, ptrB q = true → ptrL q ≠ s.data.toList)
theorem ptrG_one {s : ByteArray} {p p' : Pt} {b b' : Bool} (h : PtrG s p b) (h' : PtrG s p' b') : b = b' ∧ p = p' := by
  rcases h with ⟨rfl, h1, h2⟩ | ⟨rfl, rfl, h1⟩
  · rcases h' with ⟨rfl, h1', h2'⟩ | ⟨rfl, rfl, h1'⟩
    · exact ⟨rfl, ptrL_inj h1 h1' (h2.trans h2'.symm)⟩
    · exact absurd h2 (h1' p h1)
  · rcases h' with ⟨rfl, h1', h2'⟩ | ⟨rfl, rfl, h1'⟩
    · exact absurd h2' (h1 p' h1')
    · exact ⟨rfl, rfl⟩
theorem ptrG_put {p : Pt} (h : ptrB p = true) : PtrG (ofL (ptrL p)) p true := .inl ⟨rfl, h, (ofL_data _).symm⟩
/-- A dash is the hole. -/
theorem ptrG_dash : PtrG ⟨#[45]⟩ hole true := .inl ⟨rfl, rfl, rfl⟩
theorem hole_text {q : Pt} (hq : holeB q = true) {s : ByteArray} (h : ptrL q = s.data.toList) : s = ⟨#[45]⟩ := by
  simp only [ptrL, hq, if_true] at h
  exact ofL_ext h.symm
/-- A text other than a dash that is a pointer's is cut into that one's numbers. -/
theorem ptr_texts {s : ByteArray} (hs : s ≠ ⟨#[45]⟩) {q : Pt} (hq : ptrB q = true) (h : ptrL q = s.data.toList) : holeB q = false ∧ cutB 46 s = [decT q.at_, decT q.birth, decT q.size, decT q.sum, decT q.level] := by
  cases hh : holeB q
  · refine ⟨rfl, ?_⟩
    rw [cutB, ← h, ptr_cut hh]
    rfl
  · exact absurd (hole_text hh h) hs
theorem ptrG_len {s : ByteArray} (hs : s ≠ ⟨#[45]⟩) (h : ¬ (cutB 46 s).length = 5) : PtrG s hole false :=
  .inr ⟨rfl, rfl, fun q hq he => h (by rw [(ptr_texts hs hq he).2]; rfl)⟩
theorem numB_decT {n : Int} (h0 : 0 ≤ n) (h1 : n ≤ 999999999) : numB (decT n) = true ∧ numV (decT n) = n := numB_dec h0 h1 (decT_data n)
theorem ptrG_num {s : ByteArray} (hs : s ≠ ⟨#[45]⟩) {i : Nat} {t : ByteArray} (hi : (cutB 46 s)[i]? = some t) (h : numB t = false) : PtrG s hole false :=
  .inr ⟨rfl, rfl, fun q hq he => by
    have hb := ptr_bounds hq
    rw [(ptr_texts hs hq he).2] at hi
    have k : ∀ n, 0 ≤ n → n ≤ 999999999 → t = decT n → False := fun n h0 h1 e => by
      rw [e, (numB_decT h0 h1).1] at h
      cases h
    rcases i with _ | _ | _ | _ | _ | i
    · simp at hi; exact k _ (by omega) (by omega) hi.symm
    · simp at hi; exact k _ (by omega) (by omega) hi.symm
    · simp at hi; exact k _ (by omega) (by omega) hi.symm
    · simp at hi; exact k _ (by omega) (by omega) hi.symm
    · simp at hi; exact k _ (by omega) (by omega) hi.symm
    · simp at hi⟩
theorem ptrG_five {s : ByteArray} (hs : s ≠ ⟨#[45]⟩) {a b c d e : ByteArray} (h : cutB 46 s = [a, b, c, d, e]) (ha : numB a = true) (hb : numB b = true) (hc : numB c = true) (hd : numB d = true) (he : numB e = true) :
    (ptrB ⟨numV a, numV b, numV c, numV d, numV e⟩ = true ∧ holeB ⟨numV a, numV b, numV c, numV d, numV e⟩ = false → PtrG s ⟨numV a, numV b, numV c, numV d, numV e⟩ true) ∧
    (¬ (ptrB ⟨numV a, numV b, numV c, numV d, numV e⟩ = true ∧ holeB ⟨numV a, numV b, numV c, numV d, numV e⟩ = false) → PtrG s hole false) := by
  have h5 := ptr_five h ha hb hc hd he
  constructor
  · rintro ⟨h1, h2⟩
    refine .inl ⟨rfl, h1, ?_⟩
    rw [h5]
    simp only [ptrL, h2, Bool.false_eq_true, if_false]
  · intro hn
    refine .inr ⟨rfl, rfl, fun q hq hqe => hn ?_⟩
    obtain ⟨g1, g2⟩ := ptr_texts hs hq hqe
    rw [h] at g2
    simp only [List.cons.injEq, and_true] at g2
    obtain ⟨rfl, rfl, rfl, rfl, rfl⟩ := g2
    have hb := ptr_bounds hq
    rw [(numB_decT (by omega) (by omega : q.at_ ≤ 999999999)).2, (numB_decT (by omega) (by omega : q.birth ≤ 999999999)).2, (numB_decT (by omega) (by omega : q.size ≤ 999999999)).2, (numB_decT (by omega) (by omega : q.sum ≤ 999999999)).2, (numB_decT (by omega) (by omega : q.level ≤ 999999999)).2]
    exact ⟨hq, g1⟩
theorem ptrL_len {p : Pt} (h : ptrB p = true) : 1 ≤ (ptrL p).length ∧ (ptrL p).length ≤ 49 := by
  have hb := ptr_bounds h
  have a1 := decL_len (n := p.at_) (by omega) (by omega)
  have a2 := decL_len (n := p.birth) (by omega) (by omega)
  have a3 := decL_len (n := p.size) (by omega) (by omega)
  have a4 := decL_len (n := p.sum) (by omega) (by omega)
  have a5 := decL_len (n := p.level) (by omega) (by omega)
  unfold ptrL
  split
  · simp
  · simp only [List.length_append, List.length_cons]
    omega

end Go.Proofs.YtafadedacbjioaaGreatDoor

/- The pointers of an indirect block, in plain Lean. -/
namespace Go.Proofs.YtafadedacbjioaaGreatDoor
open Go.RowKit
set_option linter.unusedVariables false
set_option linter.unusedSimpArgs false

/-- What an indirect block's text must be. -/
def FanOk (s : ByteArray) (l : List Pt) : Prop := l.length = 4 ∧ (∀ p ∈ l, ptrB p = true) ∧ (∃ p ∈ l, holeB p = false) ∧ cutB 44 s = l.map ptrT
def FanG (s : ByteArray) (l : List Pt) (b : Bool) : Prop := (b = true ∧ FanOk s l) ∨ (b = false ∧ l = [] ∧ ∀ m, ¬ FanOk s m)
theorem ptrT_dataF {p : Pt} (h : ptrB p = true) : (ptrT p).data.toList = ptrL p := by rw [ptrT, if_pos h, ofL_data]
theorem ptrT_injF {p q : Pt} (hp : ptrB p = true) (hq : ptrB q = true) (h : ptrT p = ptrT q) : p = q := by
  refine ptrL_inj hp hq ?_
  rw [← ptrT_dataF hp, h, ptrT_dataF hq]
theorem map_ptrT_inj : ∀ {l m : List Pt}, (∀ p ∈ l, ptrB p = true) → (∀ p ∈ m, ptrB p = true) → l.map ptrT = m.map ptrT → l = m
  | [], [], _, _, _ => rfl
  | [], _ :: _, _, _, h => by simp at h
  | _ :: _, [], _, _, h => by simp at h
  | p :: l, q :: m, hl, hm, h => by
    simp only [List.map_cons, List.cons.injEq] at h
    have e1 := ptrT_injF (hl p (by simp)) (hm q (by simp)) h.1
    have e2 := map_ptrT_inj (fun x hx => hl x (List.mem_cons_of_mem _ hx)) (fun x hx => hm x (List.mem_cons_of_mem _ hx)) h.2
    rw [e1, e2]
theorem fanOk_one {s : ByteArray} {l m : List Pt} (h : FanOk s l) (h' : FanOk s m) : l = m :=
  map_ptrT_inj h.2.1 h'.2.1 (h.2.2.2.symm.trans h'.2.2.2)
theorem fanG_one {s : ByteArray} {l m : List Pt} {b c : Bool} (h : FanG s l b) (h' : FanG s m c) : b = c ∧ l = m := by
  rcases h with ⟨rfl, h⟩ | ⟨rfl, rfl, h⟩
  · rcases h' with ⟨rfl, h'⟩ | ⟨rfl, rfl, h'⟩
    · exact ⟨rfl, fanOk_one h h'⟩
    · exact absurd h (h' l)
  · rcases h' with ⟨rfl, h'⟩ | ⟨rfl, rfl, h'⟩
    · exact absurd h' (h m)
    · exact ⟨rfl, rfl⟩
/-- As far as pieces were read. -/
def FanAt (xs : List ByteArray) (k : Nat) (l : List Pt) : Prop := l.length = k ∧ (∀ p ∈ l, ptrB p = true) ∧ xs.take k = l.map ptrT
theorem fanAt_nil (xs : List ByteArray) : FanAt xs 0 [] := ⟨rfl, fun p h => by simp at h, by simp⟩
theorem fanAt_next {xs : List ByteArray} {k : Nat} {l : List Pt} {t : ByteArray} {p : Pt} (h : FanAt xs k l) (ht : xs[k]? = some t) (hp : PtrG t p true) : FanAt xs (k + 1) (l ++ [p]) := by
  obtain ⟨h1, h2, h3⟩ := h
  rcases hp with ⟨_, h4, h5⟩ | ⟨h4, _⟩
  · refine ⟨by simp [h1], fun q hq => ?_, ?_⟩
    · rcases List.mem_append.1 hq with hq | hq
      · exact h2 q hq
      · simp at hq
        rw [hq]
        exact h4
    · have e : ptrT p = t := ofL_ext (by rw [ptrT_dataF h4, h5])
      rw [List.take_add_one, ht, h3]
      simp [e]
  · cases h4
/-- A piece that is no pointer's text: no fan. -/
theorem fanG_bad {s t : ByteArray} {k : Nat} (ht : (cutB 44 s)[k]? = some t) {p : Pt} (hp : PtrG t p false) : FanG s [] false :=
  .inr ⟨rfl, rfl, fun m hm => by
    obtain ⟨_, h2, _, h4⟩ := hm
    rw [h4, List.getElem?_map] at ht
    cases hq : m[k]? with
    | none => rw [hq] at ht; cases ht
    | some q =>
      rw [hq] at ht
      cases ht
      have hb := h2 q (List.mem_of_getElem? hq)
      rcases hp with ⟨h, _⟩ | ⟨_, _, h⟩
      · cases h
      · exact h q hb (ptrT_dataF hb).symm⟩
theorem fanG_len {s : ByteArray} (h : ¬ (cutB 44 s).length = 4) : FanG s [] false :=
  .inr ⟨rfl, rfl, fun m hm => h (by rw [hm.2.2.2, List.length_map]; exact hm.1)⟩
theorem fanAt_all {xs : List ByteArray} {l : List Pt} (h : FanAt xs xs.length l) : xs = l.map ptrT := by
  have := h.2.2
  rwa [List.take_length] at this
theorem fanG_holes {s : ByteArray} {l : List Pt} (h : FanAt (cutB 44 s) (cutB 44 s).length l) (hh : ∀ p ∈ l, holeB p = true) : FanG s [] false :=
  .inr ⟨rfl, rfl, fun m hm => by
    have e := fanAt_all h
    rw [hm.2.2.2] at e
    have e := map_ptrT_inj hm.2.1 h.2.1 e
    obtain ⟨p, hp, hq⟩ := hm.2.2.1
    rw [e] at hp
    rw [hh p hp] at hq
    cases hq⟩
theorem fanG_yes {s : ByteArray} {l : List Pt} (h : FanAt (cutB 44 s) (cutB 44 s).length l) (h4 : l.length = 4) (hh : ∃ p ∈ l, holeB p = false) : FanG s l true :=
  .inl ⟨rfl, h4, h.2.1, hh, fanAt_all h⟩
/-- The text that the pieces are put together to. -/
theorem join_slash {c : UInt8} : ∀ (xs : List (List UInt8)), xs ≠ [] → slash c xs = c :: Lib.join xs [c]
  | [], h => absurd rfl h
  | [x], _ => by simp [slash, Lib.join]
  | x :: y :: r, _ => by
    have e : slash c (x :: y :: r) = c :: (x ++ slash c (y :: r)) := by simp [slash]
    rw [e, join_slash (y :: r) (by simp)]
    simp [Lib.join]
theorem join_cut {c : UInt8} {s : List UInt8} {xs : List (List UInt8)} (h : cutL c s = xs) (hn : xs ≠ []) : Lib.join xs [c] = s := by
  have h1 := cutL_back h
  rw [join_slash xs hn] at h1
  exact List.tail_eq_of_cons_eq h1
theorem fan_join {s : ByteArray} {l : List Pt} (h : FanAt (cutB 44 s) (cutB 44 s).length l) (h4 : l.length = 4) : ofL (Lib.join ((l.map ptrT).map (·.data.toList)) [44]) = s := by
  have e := fanAt_all h
  have e1 := congrArg (List.map (·.data.toList)) e
  rw [cutB, map_data_ofL] at e1
  rw [join_cut e1 (by intro h0; have := congrArg List.length h0; simp [h4] at this), data_ofL]
theorem fanL_len : ∀ {l : List Pt}, (∀ p ∈ l, ptrB p = true) → (Lib.join ((l.map ptrT).map (·.data.toList)) [44]).length ≤ 50 * l.length
  | [], _ => by simp [Lib.join]
  | [p], h => by
    have := (ptrL_len (h p (by simp))).2
    simp [Lib.join, ptrT_dataF (h p (by simp))]
    omega
  | p :: q :: r, h => by
    have h1 := (ptrL_len (h p (by simp))).2
    have h2 := fanL_len (l := q :: r) (fun x hx => h x (List.mem_cons_of_mem _ hx))
    have e : Lib.join (((p :: q :: r).map ptrT).map (·.data.toList)) [44] = (ptrT p).data.toList ++ [44] ++ Lib.join (((q :: r).map ptrT).map (·.data.toList)) [44] := by simp [Lib.join]
    rw [e, List.length_append, List.length_append, ptrT_dataF (h p (by simp))]
    simp only [List.length_cons, List.length_nil] at h2 ⊢
    omega

end Go.Proofs.YtafadedacbjioaaGreatDoor

/- The laws' mark texts: one text a number. -/
namespace Go.Proofs.YtafadedacbjioaaGreatDoor
open Go.RowKit
set_option linter.unusedVariables false

/-- The digits of a number ahead of a text. -/
def markFrom (k : Nat) (out : ByteArray) : ByteArray := if h : k = 0 then out else markFrom (k / 10) (⟨#[48 + UInt8.ofNat (k % 10)]⟩ ++ out)
termination_by k
decreasing_by omega
/-- The text of a mark. -/
def markS (k : Nat) : ByteArray := ⟨#[109]⟩ ++ markFrom k ⟨#[]⟩

theorem markFrom_zero (out : ByteArray) : markFrom 0 out = out := by unfold markFrom; simp
theorem markFrom_pos {k : Nat} (h : 0 < k) (out : ByteArray) : markFrom k out = markFrom (k / 10) (⟨#[48 + UInt8.ofNat (k % 10)]⟩ ++ out) := by
  rw [markFrom, dif_neg (by omega)]

theorem wpList_convert {P : Program} {w w' : World} {ops : Array Oper} {rest : List Oper} {o : Oper} {a : Act} {Q : Exit → Act → World → Prop} (hg : o.guard = none) (src dst : TypeId) (x : Operand) (ho : o.op = Op.convert src dst x) {v r : Value} (hx : a.eval x = v) (hrun : (convert src dst v).run P w = .ok r w') (h : wpList P ops Q rest (a.put o.dst r) w') : wpList P ops Q (o :: rest) a w :=
  wpList_plain hg fun K hK => by
    unfold Oper.wp
    simp [execOp, ho, hx, hrun, Result.andThen]
    exact hK _ _ h

/-- One byte, from a literal of one, as a text. -/
theorem back_one (w : World) (src T : TypeId) (hs : Tryz.prog.underlying src = some (.slice T)) (hT : Tryz.prog.underlying T = some (.int .u8)) (n : Nat) (hn : n < 256) (x : Int) (hx : x = (n : Int)) (cap : Nat) :
    (convert src 9 (.slice (some ⟨w.heap.size, 0, none⟩) 1 cap)).run Tryz.prog (w.alloc (.cells #[.int .u8 x] T)) = .ok (.string ⟨#[UInt8.ofNat n]⟩) (w.alloc (.cells #[.int .u8 x] T)) := by
  subst hx
  have h := run_convert_bytes_back (P := Tryz.prog) (w.alloc (.cells #[.int .u8 n] T)) src 9 T ⟨w.heap.size, 0, none⟩ cap [UInt8.ofNat n] hs hT Tryz.underlying9 (fun j hj => by
    have : j = 0 := by simpa using hj
    subst this
    have e : (UInt8.ofNat n).toNat = n := by simp; omega
    have ea : (⟨w.heap.size, 0, none⟩ : Addr).add 0 = ⟨w.heap.size, 0, none⟩ := by unfold Addr.add; simp
    rw [ea]
    unfold World.cell?
    simp only [heap_alloc_new]
    simp [e])
  exact h

theorem markText_any (k : Nat) (w : World) (h1 : 1 ≤ k) (h2 : k ≤ 4194304) :
    Calls Tryz.prog 72 #[.int .i64 k] w fun e w' => e = .returned (.string (markS k)) ∧ Below w.heap.size w w' := by
  have n1 : ¬ (k : Int) ≤ 0 := by omega
  go_enter Tryz.func72, Tryz.ntmps72
  go_wp2_with fail
  go_loopw [0, 3] (fun x y wr => ∃ (j : Nat) (out : ByteArray), x = .int .i64 j ∧ y = .string out ∧ Hid (markFrom j out = markFrom k ⟨#[]⟩) ∧ out.size + j ≤ k ∧ Hid (Below w.heap.size w wr)) (fun x y _ => (intOf x).toNat)
  case atStart => exact ⟨k, ⟨#[]⟩, rfl, rfl, Lib.hid rfl, by show 0 + k ≤ k; omega, Lib.hid (Below.refl _ _)⟩
  case round =>
    obtain ⟨j, out, rfl, rfl, HM, hs, HB⟩ := hrel
    by_cases hj : 0 < j
    · have HF := Lib.hid ((markFrom_pos hj out).symm.trans HM.out)
      have q1 : (48 : Int) + (j : Int) % 10 = ((48 + j % 10 : Nat) : Int) := by omega
      have HCV := back_one wr 83 5 Tryz.underlying83 Tryz.underlying5 (48 + j % 10) (by omega) (48 + (j : Int) % 10) q1 1
      clear q1
      have q2 : ¬ 9223372036854775807 < (⟨#[UInt8.ofNat (48 + j % 10)]⟩ : ByteArray).size + out.size := by show ¬ _ < 1 + out.size; omega
      have hz : (⟨#[48 + UInt8.ofNat (j % 10)]⟩ ++ out : ByteArray).size = 1 + out.size := by rw [ByteArray.size_append]; rfl
      go_wp2_with fail
      refine ⟨⟨j / 10, _, by go_num, rfl, HF, by rw [hz]; omega, by have := HB.out; exact Lib.hid (by (repeat (first | assumption | exact Below.refl _ _ | refine below_alloc ?_ _ | refine Below.drew ?_ | refine below_drewN ?_ _ | refine below_set ?_ (by first | exact Nat.le_refl _ | omega | (simp; done) | (simp; omega)) _ | refine below_kp ?_ (by assumption) (by simp) | refine below_below ?_ (by assumption))))⟩, ?_⟩
      simp [intOf]
      omega
    · obtain rfl : j = 0 := by omega
      have HE := Lib.hid (show (⟨#[109]⟩ ++ out : ByteArray) = markS k by unfold markS; rw [← HM.out, markFrom_zero])
      have q2 : ¬ 9223372036854775807 < (⟨#[109]⟩ : ByteArray).size + out.size := by show ¬ _ < 1 + out.size; omega
      go_wp2_with fail
      go_ret
      exact ⟨ret_str HE.out, HB.out⟩

end Go.Proofs.YtafadedacbjioaaGreatDoor

/- Numbers: both texts' walks. -/
namespace Go.Proofs.YtafadedacbjioaaGreatDoor
open Go.RowKit
set_option maxRecDepth 100000
set_option linter.unusedVariables false
set_option linter.unusedSimpArgs false
attribute [local go_sem ↓] Go.wp_at_zero Go.wp_at_succ

/-- The table of powers of ten lies there. -/
def TenAt (w : World) : Prop := Lib.TabIs Tryz.prog w "internal/strconv.uint64pow10" .u64 Lib.pow10Tab
theorem TenAt.below {w w' : World} (h : TenAt w) (hb : Below w.heap.size w w') : TenAt w' := by
  unfold TenAt Lib.TabIs World.var? at *
  cases hg : Tryz.prog.globalNamed "internal/strconv.uint64pow10" with
  | none => simp [hg] at h
  | some g =>
    simp only [hg, Option.bind_some] at h ⊢
    have hlt : g < w.heap.size := by
      rcases Nat.lt_or_ge g w.heap.size with hl | hl
      · exact hl
      · rw [Array.getElem?_eq_none hl] at h; cases h
    rw [hb.block g hlt]
    exact h
/-- The variable of the syntax error holds an error. -/
def ErrAt (w : World) : Prop := ∃ ev, w.cell? ⟨3, 0, none⟩ = some ev ∧ (ev = .nilIface ∨ ∃ te pe, ev = .iface te pe)
theorem ErrAt.below {w w' : World} (h : ErrAt w) (hb : Below w.heap.size w w') : ErrAt w' := by
  obtain ⟨ev, h1, h2⟩ := h
  refine ⟨ev, ?_, h2⟩
  have hl : 3 < w.heap.size := Lib.lt_of_cell h1
  exact ((bcell hb).1 _ 0 hl).trans h1


theorem decT_small {n : Int} (h0 : 0 ≤ n) (h : n < 10) : decT n = ⟨#[UInt8.ofNat (48 + n.toNat)]⟩ := by
  rw [decT, decL, dec_small (by omega)]
  rfl
theorem decT_big {n : Int} (h : 10 ≤ n) : decT n = decT (n / 10) ++ ⟨#[UInt8.ofNat (48 + (n % 10).toNat)]⟩ := by
  refine ofL_ext ?_
  rw [decT_data, bytes_append, decT_data, decL, decL, dec_big (by omega)]
  have e1 : (n / 10).toNat = n.toNat / 10 := by omega
  have e2 : (n % 10).toNat = n.toNat % 10 := by omega
  rw [e1, e2]


theorem numPut_any (n : Int) (w : World) (hT : TenAt w) : Calls Tryz.prog 110 #[.int .i64 n] w fun e w' => e = .returned (.string (numT n)) ∧ Below w.heap.size w w' := by
  cases h : inB n 0 999999999
  · rw [numT_out h]
    go_enter Tryz.func110, Tryz.ntmps110
    go_wp2_with fail
    refine Calls.mono (within_any _ _ _ _) ?_
    rintro e w2 ⟨rfl, rfl⟩
    rw [h]
    go_wp2_with fail
    go_ret
    exact ⟨rfl, Below.refl _ _⟩
  · obtain ⟨h0, h1⟩ := inB_true h
    have e : numT n = ⟨(Lib.itoa n).toArray⟩ := if_pos h
    have HI := Lib.hid (Tryz.strconv_Itoa n (by omega) (by omega) w hT)
    rw [e]
    clear e
    generalize (⟨(Lib.itoa n).toArray⟩ : ByteArray) = r at *
    go_enter Tryz.func110, Tryz.ntmps110
    go_wp2_with fail
    refine Calls.mono (within_any _ _ _ _) ?_
    rintro e w2 ⟨rfl, rfl⟩
    rw [h]
    go_wp2_with fail
    refine Calls.mono HI.out ?_
    rintro e w2 ⟨rfl, k, os, rfl⟩
    have HB := Lib.hid (Lib.below_grow _ w (Nat.le_refl _) k os)
    go_wp2_with fail
    go_ret
    exact ⟨rfl, HB.out⟩
set_option maxHeartbeats 1600000 in
theorem numGet_any (s : ByteArray) (w : World) (hT : TenAt w) (hE : ErrAt w) (hs : s.size ≤ 9223372036854775807) : Calls Tryz.prog 101 #[.string s] w fun e w' => e = .returned (.tuple #[.int .i64 (numV s), .bool (numB s)]) ∧ Below w.heap.size w w' := by
  by_cases h9 : 9 < s.size
  · have hb : numB s = false := by
      cases h : numB s
      · rfl
      · have := numB_size h; omega
    rw [numV_miss hb, hb]
    go_enter Tryz.func101, Tryz.ntmps101
    go_wp2_with fail
    go_ret2
    exact ⟨rfl, Below.refl _ _⟩
  · cases ha : Lib.atoi s.data.toList with
    | none =>
      have hb : numB s = false := by
        cases h : numB s
        · rfl
        · rw [atoi_hit h] at ha; cases ha
      obtain ⟨ev, hv, hev⟩ := hE
      have HA := Lib.hid (Tryz.strconv_Atoi_err s (by omega) ha ev w hv hev)
      rw [numV_miss hb, hb]
      clear hv hev ha
      go_enter Tryz.func101, Tryz.ntmps101
      go_wp2_with fail
      refine Calls.mono HA.out ?_
      rintro e w2 ⟨N, rfl, hN, _, hB⟩
      have HB := Lib.hid hB
      clear hB
      go_wp2_with fail
      go_ret2
      exact ⟨rfl, HB.out⟩
    | some v =>
      have HA := Lib.hid (Tryz.strconv_Atoi s v (by omega) ha w)
      cases hb : numB s
      · have hne := atoi_miss hb ha
        have hq : ((numT v).toList == s.toList) = false := by
          cases h : ((numT v).toList == s.toList)
          · rfl
          · rw [beq_iff_eq, Lib.toList_data, Lib.toList_data] at h
            exact absurd (ofL_ext h) hne
        rw [numV_miss hb]
        clear ha hne
        go_enter Tryz.func101, Tryz.ntmps101
        go_wp2_with fail
        refine Calls.mono HA.out ?_
        rintro e w2 ⟨rfl, t, rfl⟩
        have HB := Lib.hid (Lib.bytesWorld_below w 5 t)
        go_wp2_with fail
        refine Calls.mono (numPut_any v _ (hT.below HB.out)) ?_
        rintro e w3 ⟨rfl, hB⟩
        have HB3 := Lib.hid (below_below HB.out hB)
        clear hB
        go_wp2_with fail
        go_ret2
        exact ⟨rfl, HB3.out⟩
      · have hv : v = numV s := by rw [atoi_hit hb] at ha; exact (Option.some.inj ha).symm
        have e := numB_put hb
        subst hv
        clear ha
        go_enter Tryz.func101, Tryz.ntmps101
        go_wp2_with fail
        refine Calls.mono HA.out ?_
        rintro e w2 ⟨rfl, t, rfl⟩
        have HB := Lib.hid (Lib.bytesWorld_below w 5 t)
        go_wp2_with fail
        refine Calls.mono (numPut_any (numV s) _ (hT.below HB.out)) ?_
        rintro e' w3 ⟨rfl, hB⟩
        have HB3 := Lib.hid (below_below HB.out hB)
        rw [e]
        clear hB
        go_wp2_with fail
        go_ret2
        exact ⟨rfl, HB3.out⟩
theorem take_dig {s : ByteArray} {k : Nat} (hk : k < s.size) : s.data.toList.take (k + 1) = s.data.toList.take k ++ [s[k]] := by
  have h : k < s.data.toList.length := by rw [Array.length_toList]; exact hk
  rw [List.take_add_one, List.getElem?_eq_getElem h]
  rfl
theorem l1_end {s : ByteArray} {k : Nat} {n : Int} (h9 : k ≤ 9) (hk : k ≤ s.size) (hd : ∀ b ∈ s.data.toList.take k, digB b = true) (hn : n = (valL (s.data.toList.take k) : Int))
    (he : k = s.size ∨ k = 9 ∨ ∃ h : k < s.size, digB s[k] = false) : (l1N s = if zeroB s.data.toList = true then 0 else n) ∧ (l1K s = if zeroB s.data.toList = true then 1 else k) ∧ (zeroB s.data.toList = (decide (1 < k) && s.data.toList.head? == some 48)) := by
  have hl : s.data.toList.length = s.size := Array.length_toList
  have e : leadL s.data.toList = s.data.toList.take k := leadL_take h9 (by omega) hd (by
    rcases he with h | h | ⟨h, h2⟩
    · exact .inl (by omega)
    · exact .inr (.inl h)
    · exact .inr (.inr ⟨s[k], by rw [List.getElem?_eq_getElem (by omega)]; rfl, h2⟩))
  have e2 : (s.data.toList.take k).length = k := by rw [List.length_take]; omega
  refine ⟨by rw [l1N, e, hn], by rw [l1K, e, e2], by rw [zeroB, e, e2]⟩
theorem head_at {s : ByteArray} (h : 0 < s.size) : s.data.toList.head? = some s[0] := by
  have h' : 0 < s.data.toList.length := by rw [Array.length_toList]; exact h
  rw [List.head?_eq_getElem?, List.getElem?_eq_getElem h']
  rfl
set_option maxHeartbeats 4000000 in
theorem l1Num_any (s : ByteArray) (w : World) (hs : s.size ≤ 9223372036854775807) : Calls Tryz.prog 105 #[.string s] w fun e w' => e = .returned (.tuple #[.int .i64 (l1N s), .int .i64 (l1K s : Nat)]) ∧ w = w' := by
  have HEND := Lib.hid (fun k n h1 h2 h3 h4 h5 => l1_end (s := s) (k := k) (n := n) h1 h2 h3 h4 h5)
  generalize l1N s = rn at *
  generalize l1K s = rk at *
  go_enter Tryz.func105, Tryz.ntmps105
  go_wp2_with fail
  go_loop [4, 5] (fun x i => ∃ (k : Nat) (a : Int), k ≤ s.size ∧ k ≤ 9 ∧ i = .int .i64 k ∧ x = .int .i64 a ∧ 0 ≤ a ∧ a ≤ 999999999 ∧ (k < 9 → a ≤ 99999999) ∧ Hid (∀ b ∈ s.data.toList.take k, digB b = true) ∧ Hid (a = (valL (s.data.toList.take k) : Int))) (fun _ i => 9 - (intOf i).toNat)
  case atStart => exact ⟨0, 0, Nat.zero_le _, by omega, rfl, rfl, by omega, by omega, by omega, Lib.hid (by simp), Lib.hid (by simp; rfl)⟩
  case round =>
    obtain ⟨k, a, hk, hk9, rfl, rfl, ha0, ha1, ha2, HD, HV⟩ := hrel
    have hbd : k ≤ 9 := hk9
    by_cases c1 : k < s.size
    · by_cases c2 : k < 9
      · by_cases c3 : 48 ≤ (s[k]).toNat
        · by_cases c4 : (s[k]).toNat ≤ 57
          · have HD2 := Lib.hid (show ∀ b ∈ s.data.toList.take (k + 1), digB b = true from fun b hb => by
              rw [take_dig c1, List.mem_append, List.mem_singleton] at hb
              rcases hb with hb | rfl
              · exact HD.out b hb
              · exact digB_iff.2 ⟨c3, c4⟩)
            have HV2 := Lib.hid (show 10 * a + (((s[k]).toNat : Int) - 48) = (valL (s.data.toList.take (k + 1)) : Int) by
              rw [take_dig c1, valL_snoc, HV.out]
              omega)
            have HB2 := Lib.hid (show 10 * a + (((s[k]).toNat : Int) - 48) ≤ 999999999 ∧ (k + 1 < 9 → 10 * a + (((s[k]).toNat : Int) - 48) ≤ 99999999) from by
              have h1 := ha2 c2
              refine ⟨by omega, fun h => ?_⟩
              have h2 := valL_lt HD2.out
              have h3 : (s.data.toList.take (k + 1)).length = k + 1 := by rw [List.length_take, Array.length_toList]; have : s.data.size = s.size := rfl; omega
              have h4 : 10 ^ (k + 1) ≤ 10 ^ 8 := Nat.pow_le_pow_right (by omega) (by omega)
              rw [h3] at h2
              have h5 : (10 : Nat) ^ 8 = 100000000 := by decide
              rw [HV2.out]
              omega)
            have hsub : IntKind.u8.wrap (((s[k]).toNat : Int) - 48) = ((s[k]).toNat : Int) - 48 := IntWalk.u8_in _ (by omega)
            have hb0 := ha2 c2
            clear HEND HD HV
            go_wp2_with fail
            exact ⟨⟨k + 1, _, by omega, by omega, by go_num, rfl, by omega, HB2.out.1, HB2.out.2, HD2, HV2⟩, by simp [intOf]; omega⟩
          · have hdn : digB s[k] = false := by rw [digB]; exact decide_eq_false (by omega)
            obtain ⟨e1, e2, e3⟩ := HEND.out k a hk9 hk HD.out HV.out (.inr (.inr ⟨c1, hdn⟩))
            by_cases h0 : 1 < k
            · have hs0 : 0 < s.size := by omega
              have hh : s.data.toList.head? = some s[0] := head_at hs0
              by_cases hz : (s[0]).toNat = 48
              · have hzz : s[0] = 48 := UInt8.toNat_inj.1 hz
                rw [e3, hh, hzz] at e1 e2
                simp only [h0, decide_true, beq_self_eq_true, Bool.and_self, if_true] at e1 e2
                subst e1 e2
                clear e3 hh HEND HD HV hzz
                go_wp2_with fail
                go_ret2
                exact ⟨rfl, rfl⟩
              · have hzz : ¬ s[0] = 48 := fun h => hz (by rw [h]; rfl)
                have hzb : (some s[0] == some (48 : UInt8)) = false := by simpa using hzz
                rw [e3, hh, hzb] at e1 e2
                simp only [Bool.and_false, Bool.false_eq_true, if_false] at e1 e2
                subst e1 e2
                clear e3 hh HEND HD HV hzz hzb
                go_wp2_with fail
                go_ret2
                exact ⟨rfl, rfl⟩
            · rw [e3] at e1 e2
              simp only [h0, decide_false, Bool.false_and, Bool.false_eq_true, if_false] at e1 e2
              subst e1 e2
              clear e3 HEND HD HV
              go_wp2_with fail
              go_ret2
              exact ⟨rfl, rfl⟩
        · have hdn : digB s[k] = false := by rw [digB]; exact decide_eq_false (by omega)
          obtain ⟨e1, e2, e3⟩ := HEND.out k a hk9 hk HD.out HV.out (.inr (.inr ⟨c1, hdn⟩))
          by_cases h0 : 1 < k
          · have hs0 : 0 < s.size := by omega
            have hh : s.data.toList.head? = some s[0] := head_at hs0
            by_cases hz : (s[0]).toNat = 48
            · have hzz : s[0] = 48 := UInt8.toNat_inj.1 hz
              rw [e3, hh, hzz] at e1 e2
              simp only [h0, decide_true, beq_self_eq_true, Bool.and_self, if_true] at e1 e2
              subst e1 e2
              clear e3 hh HEND HD HV hzz
              go_wp2_with fail
              go_ret2
              exact ⟨rfl, rfl⟩
            · have hzz : ¬ s[0] = 48 := fun h => hz (by rw [h]; rfl)
              have hzb : (some s[0] == some (48 : UInt8)) = false := by simpa using hzz
              rw [e3, hh, hzb] at e1 e2
              simp only [Bool.and_false, Bool.false_eq_true, if_false] at e1 e2
              subst e1 e2
              clear e3 hh HEND HD HV hzz hzb
              go_wp2_with fail
              go_ret2
              exact ⟨rfl, rfl⟩
          · rw [e3] at e1 e2
            simp only [h0, decide_false, Bool.false_and, Bool.false_eq_true, if_false] at e1 e2
            subst e1 e2
            clear e3 HEND HD HV
            go_wp2_with fail
            go_ret2
            exact ⟨rfl, rfl⟩
      · have hk9' : k = 9 := by omega
        obtain ⟨e1, e2, e3⟩ := HEND.out k a hk9 hk HD.out HV.out (.inr (.inl hk9'))
        by_cases h0 : 1 < k
        · have hs0 : 0 < s.size := by omega
          have hh : s.data.toList.head? = some s[0] := head_at hs0
          by_cases hz : (s[0]).toNat = 48
          · have hzz : s[0] = 48 := UInt8.toNat_inj.1 hz
            rw [e3, hh, hzz] at e1 e2
            simp only [h0, decide_true, beq_self_eq_true, Bool.and_self, if_true] at e1 e2
            subst e1 e2
            clear e3 hh HEND HD HV hzz
            go_wp2_with fail
            go_ret2
            exact ⟨rfl, rfl⟩
          · have hzz : ¬ s[0] = 48 := fun h => hz (by rw [h]; rfl)
            have hzb : (some s[0] == some (48 : UInt8)) = false := by simpa using hzz
            rw [e3, hh, hzb] at e1 e2
            simp only [Bool.and_false, Bool.false_eq_true, if_false] at e1 e2
            subst e1 e2
            clear e3 hh HEND HD HV hzz hzb
            go_wp2_with fail
            go_ret2
            exact ⟨rfl, rfl⟩
        · exact absurd (show 1 < k by omega) h0
    · have hks : k = s.size := by omega
      obtain ⟨e1, e2, e3⟩ := HEND.out k a hk9 hk HD.out HV.out (.inl hks)
      by_cases h0 : 1 < k
      · have hs0 : 0 < s.size := by omega
        have hh : s.data.toList.head? = some s[0] := head_at hs0
        by_cases hz : (s[0]).toNat = 48
        · have hzz : s[0] = 48 := UInt8.toNat_inj.1 hz
          rw [e3, hh, hzz] at e1 e2
          simp only [h0, decide_true, beq_self_eq_true, Bool.and_self, if_true] at e1 e2
          subst e1 e2
          clear e3 hh HEND HD HV hzz
          go_wp2_with fail
          go_ret2
          exact ⟨rfl, rfl⟩
        · have hzz : ¬ s[0] = 48 := fun h => hz (by rw [h]; rfl)
          have hzb : (some s[0] == some (48 : UInt8)) = false := by simpa using hzz
          rw [e3, hh, hzb] at e1 e2
          simp only [Bool.and_false, Bool.false_eq_true, if_false] at e1 e2
          subst e1 e2
          clear e3 hh HEND HD HV hzz hzb
          go_wp2_with fail
          go_ret2
          exact ⟨rfl, rfl⟩
      · rw [e3] at e1 e2
        simp only [h0, decide_false, Bool.false_and, Bool.false_eq_true, if_false] at e1 e2
        subst e1 e2
        clear e3 HEND HD HV
        go_wp2_with fail
        go_ret2
        exact ⟨rfl, rfl⟩
theorem specNumGet_any (s : ByteArray) (w : World) (hs : s.size ≤ 9223372036854775807) : Calls Tryz.prog 98 #[.string s] w fun e w' => e = .returned (.tuple #[.int .i64 (numV s), .bool (numB s)]) ∧ w = w' := by
  have HL := Lib.hid (fun w => l1Num_any s w hs)
  obtain ⟨h1, h2⟩ := l1_num s
  have hb := l1_bounds s
  cases hnb : numB s
  · rw [numV_miss hnb]
    rw [hnb] at h1
    generalize l1N s = n at *
    generalize l1K s = k at *
    by_cases hk0 : k = 0
    · subst hk0
      clear h1 h2 hb hnb
      go_enter Tryz.func98, Tryz.ntmps98
      go_wp2_with fail
      refine Calls.mono (HL.out _) ?_
      rintro e w2 ⟨rfl, rfl⟩
      go_wp2_with fail
      go_ret2
      exact ⟨rfl, rfl⟩
    · have hks : ¬ k = s.size := by simpa [hk0] using h1
      clear h1 h2 hnb
      go_enter Tryz.func98, Tryz.ntmps98
      go_wp2_with fail
      refine Calls.mono (HL.out _) ?_
      rintro e w2 ⟨rfl, rfl⟩
      have e1 : ((k : Int) == 0) = false := by simpa using hk0
      have e2 : ((k : Int) != (s.size : Int)) = true := by simp; omega
      go_wp2_with fail
      go_ret2
      exact ⟨rfl, rfl⟩
  · rw [h2 hnb]
    rw [hnb] at h1
    generalize l1N s = n at *
    generalize l1K s = k at *
    have h1' := h1.symm
    simp only [Bool.and_eq_true, decide_eq_true_eq] at h1'
    obtain ⟨hk0, hks⟩ := h1'
    clear h1 h2 hnb
    go_enter Tryz.func98, Tryz.ntmps98
    go_wp2_with fail
    refine Calls.mono (HL.out _) ?_
    rintro e w2 ⟨rfl, rfl⟩
    have e1 : ((k : Int) == 0) = false := by simpa using hk0
    have e2 : ((k : Int) != (s.size : Int)) = false := by simp; omega
    clear hks
    go_wp2_with fail
    go_ret2
    exact ⟨rfl, rfl⟩

end Go.Proofs.YtafadedacbjioaaGreatDoor

/- PtrPut: both texts' walks. -/
namespace Go.Proofs.YtafadedacbjioaaGreatDoor
open Go.RowKit
set_option maxRecDepth 100000
set_option linter.unusedVariables false
set_option linter.unusedSimpArgs false

theorem decT_le {n : Int} (h0 : 0 ≤ n) (h1 : n ≤ 999999999) : (decT n).size ≤ 20 := by
  have h10 : (10 : Nat) ^ (19 + 1) = 100000000000000000000 := by decide
  have := dec_len 19 n.toNat (by omega)
  rw [decT, ofL_size, decL]
  omega
end Go.Proofs.YtafadedacbjioaaGreatDoor

/- A variable that lies in memory: its block, known whole. -/
namespace Go.Proofs.YtafadedacbjioaaGreatDoor
open Go.RowKit
set_option linter.unusedVariables false

def BoxAt (w : World) (b : Nat) (cs : Array Value) (T : TypeId) : Prop := w.heap[b]? = some (.cells cs T)
section
variable {w w' : World} {b : Nat} {cs : Array Value} {T : TypeId}
theorem BoxAt.lt (h : BoxAt w b cs T) : b < w.heap.size := by
  rcases Nat.lt_or_ge b w.heap.size with h' | h'
  · exact h'
  · unfold BoxAt at h
    rw [Array.getElem?_eq_none h'] at h
    cases h
theorem BoxAt.cell (h : BoxAt w b cs T) : ∀ j, w.cell? ⟨b, j, none⟩ = cs[j]? := fun j => by
  unfold BoxAt at h
  simp [World.cell?, h]
theorem BoxAt.froz (h : BoxAt w b cs T) : ∀ j, w.frozen? ⟨b, j, none⟩ = false := fun j => by
  unfold BoxAt at h
  simp [World.frozen?, h]
theorem BoxAt.below (h : BoxAt w b cs T) (hB : Below w.heap.size w w') : BoxAt w' b cs T := (hB.block b h.lt).trans h
theorem BoxAt.kp {ex : List Nat} (h : BoxAt w b cs T) (hB : Kp ex w w') (he : b ∉ ex) : BoxAt w' b cs T := (hB.block b h.lt he).trans h
theorem BoxAt.alloc (h : BoxAt w b cs T) (o : Obj) : BoxAt (w.alloc o) b cs T := (Below.heap_alloc _ _ _ h.lt).trans h
theorem BoxAt.drew (h : BoxAt w b cs T) : BoxAt w.drew b cs T := h
theorem BoxAt.drewN (h : BoxAt w b cs T) (n : Nat) : BoxAt (w.drewN n) b cs T := h
theorem BoxAt.set (h : BoxAt w b cs T) {p : Addr} (hp : b ≠ p.block) (u : Value) : BoxAt (w.setCell p u) b cs T := (Below.heap_setCell _ _ _ _ hp).trans h
theorem box_new (w : World) (cs : Array Value) (T : TypeId) : BoxAt (w.alloc (.cells cs T)) w.heap.size cs T := heap_alloc_new w _
theorem box_putB (h : BoxAt w b cs T) (j : Nat) (v : Value) : BoxAt (w.setCell ⟨b, j, none⟩ v) b (cs.setIfInBounds j v) T := by
  obtain ⟨hlt, hk⟩ := Array.getElem?_eq_some_iff.1 (show w.heap[b]? = some (.cells cs T) from h)
  show (w.heap.modify b _)[b]? = _
  rw [Array.getElem?_eq_getElem (by rw [Array.size_modify]; exact hlt), Array.getElem_modify_self, hk]
  rfl
end

end Go.Proofs.YtafadedacbjioaaGreatDoor

/- What the functions of paths return, and how they fit together, in plain Lean. -/
namespace Go.Proofs.YtafadedacbjioaaGreatDoor
open Go.RowKit
set_option linter.unusedVariables false

def baseT (s : ByteArray) : ByteArray := ((namesT s).getLast?).getD ByteArray.empty
def folderT (s : ByteArray) : ByteArray := if namesT s = [] then ByteArray.empty else pathT (namesT s).dropLast
def joinB (s n : ByteArray) : Bool := pathB s && pathOfB (namesT s ++ [n])
def joinT (s n : ByteArray) : ByteArray := if joinB s n = true then pathT (namesT s ++ [n]) else ByteArray.empty
def underB (s t : ByteArray) : Bool := pathB s && (pathB t && (decide ((namesT t).length ≤ (namesT s).length) && decide ((namesT s).take (namesT t).length = namesT t)))

theorem namesT_of {s : ByteArray} (h : pathB s = true) : namesT s = namesOf s := by simp [namesT, h]
theorem namesT_no {s : ByteArray} (h : pathB s = false) : namesT s = [] := by simp [namesT, h]
theorem namesT_ok {s : ByteArray} (h : pathB s = true) : pathOfB (namesT s) = true := by rw [namesT_of h]; exact (pathB_cases h).2
theorem namesT_put {s : ByteArray} (h : pathB s = true) : pathT (namesT s) = s := by rw [namesT_of h]; exact pathT_names (pathB_cases h).1
theorem put_namesT {xs : List ByteArray} (h : pathOfB xs = true) : namesT (pathT xs) = xs := by
  rw [namesT_of (pathB_pathT h)]
  exact names_pathT (all_nameB h).2
theorem namesT_pathB {s : ByteArray} (h : namesT s ≠ []) : pathB s = true := by
  cases hp : pathB s
  · exact absurd (namesT_no hp) h
  · rfl
theorem pathOfB_mk {xs : List ByteArray} (h1 : xs.length ≤ 4) (h2 : ∀ x ∈ xs, nameB x = true) : pathOfB xs = true := by
  simp only [pathOfB, Bool.and_eq_true, decide_eq_true_eq, List.all_eq_true]
  exact ⟨h1, h2⟩
theorem pathOfB_dropLast {xs : List ByteArray} (h : pathOfB xs = true) : pathOfB xs.dropLast = true := by
  obtain ⟨h1, h2⟩ := all_nameB h
  exact pathOfB_mk (by rw [List.length_dropLast]; omega) (fun x hx => h2 x (List.dropLast_subset xs hx))
theorem pathOfB_one {s : ByteArray} (h : nameB s = true) : pathOfB [s] = true := pathOfB_mk (by simp) (fun x hx => by simp at hx; rw [hx]; exact h)

theorem pathT_ne (xs : List ByteArray) : pathT xs ≠ ByteArray.empty := fun e => by
  have := path_head xs
  rw [e] at this
  cases this
theorem nameB_ne {s : ByteArray} (h : nameB s = true) : s ≠ ByteArray.empty := fun e => by
  have := nameB_size h
  rw [e] at this
  simp at this

theorem baseT_cases (s : ByteArray) : (namesT s = [] ∧ baseT s = ByteArray.empty ∧ folderT s = ByteArray.empty) ∨ (∃ xs n, pathB s = true ∧ namesT s = xs ++ [n] ∧ baseT s = n ∧ folderT s = pathT xs ∧ nameB n = true ∧ pathOfB xs = true ∧ pathOfB (xs ++ [n]) = true) := by
  by_cases h : namesT s = []
  · exact .inl ⟨h, by simp [baseT, h], by simp [folderT, h]⟩
  · have hp := namesT_pathB h
    have hok := namesT_ok hp
    have e := List.dropLast_concat_getLast h
    refine .inr ⟨(namesT s).dropLast, (namesT s).getLast h, hp, e.symm, by rw [baseT, List.getLast?_eq_some_getLast h]; rfl, by simp [folderT, h], (all_nameB hok).2 _ (List.getLast_mem h), pathOfB_dropLast hok, by rw [e]; exact hok⟩

/-- P110. -/
theorem base_law {s : ByteArray} (h : baseT s ≠ ByteArray.empty) : joinB (folderT s) (baseT s) = true ∧ joinT (folderT s) (baseT s) = s ∧ nameB (baseT s) = true := by
  rcases baseT_cases s with ⟨_, hb, _⟩ | ⟨xs, n, hp, hn, hb, hf, h1, h2, h3⟩
  · exact absurd hb h
  · have hj : joinB (folderT s) (baseT s) = true := by
      rw [hf, hb, joinB, pathB_pathT h2, put_namesT h2, h3]
      rfl
    refine ⟨hj, ?_, by rw [hb]; exact h1⟩
    rw [joinT, if_pos hj, hf, hb, put_namesT h2, ← hn, namesT_put hp]

theorem underB_mk {s t : ByteArray} (hs : pathB s = true) (ht : pathB t = true) (h : namesT t <+: namesT s) : underB s t = true := by
  have h1 := h.length_le
  have h2 := List.prefix_iff_eq_take.1 h
  simp [underB, hs, ht, h1, h2.symm]
theorem underB_of {s t : ByteArray} (h : underB s t = true) : pathB s = true ∧ pathB t = true ∧ namesT t <+: namesT s := by
  simp only [underB, Bool.and_eq_true, decide_eq_true_eq] at h
  exact ⟨h.1, h.2.1, List.prefix_iff_eq_take.2 h.2.2.2.symm⟩

/-- P111. -/
theorem folder_law {s : ByteArray} (h : folderT s ≠ ByteArray.empty) : pathB s = true ∧ pathB (folderT s) = true ∧ (namesT s).length = (namesT (folderT s)).length + 1 ∧ underB s (folderT s) = true ∧ underB (folderT s) s = false := by
  rcases baseT_cases s with ⟨_, _, hf⟩ | ⟨xs, n, hp, hn, hb, hf, h1, h2, h3⟩
  · exact absurd hf h
  · have e := put_namesT h2
    refine ⟨hp, by rw [hf]; exact pathB_pathT h2, by rw [hf, e, hn]; simp, ?_, ?_⟩
    · rw [hf]
      exact underB_mk hp (pathB_pathT h2) (by rw [e, hn]; exact List.prefix_append _ _)
    · cases hu : underB (folderT s) s
      · rfl
      · have := (underB_of hu).2.2.length_le
        rw [hf, e, hn] at this
        simp at this
        omega

/-- P112. -/
theorem join_law {s n : ByteArray} (h : joinB s n = true) : baseT (joinT s n) = n ∧ folderT (joinT s n) = s ∧ underB (joinT s n) s = true := by
  have h' := h
  simp only [joinB, Bool.and_eq_true] at h'
  obtain ⟨hp, hok⟩ := h'
  have e : namesT (joinT s n) = namesT s ++ [n] := by rw [joinT, if_pos h]; exact put_namesT hok
  refine ⟨by simp [baseT, e], ?_, underB_mk (by rw [joinT, if_pos h]; exact pathB_pathT hok) hp (by rw [e]; exact List.prefix_append _ _)⟩
  rw [folderT, e, if_neg (by simp), List.dropLast_concat]
  exact namesT_put hp

theorem root_path : pathB ⟨#[47]⟩ = true := by simp [pathB]
theorem root_names : namesT ⟨#[47]⟩ = [] := by rw [namesT_of root_path]; simp [namesOf]

/-- P113. -/
theorem under_law {s t : ByteArray} (hs : pathB s = true) (ht : pathB t = true) : underB s s = true ∧ underB s ⟨#[47]⟩ = true ∧ (underB s t = true → underB t s = true → s = t) ∧ (underB s t = true → folderT t ≠ ByteArray.empty → underB s (folderT t) = true) := by
  refine ⟨underB_mk hs hs (List.prefix_refl _), underB_mk hs root_path (by rw [root_names]; exact List.nil_prefix), fun h1 h2 => ?_, fun h1 h2 => ?_⟩
  · have e : namesT s = namesT t := List.IsPrefix.eq_of_length_le (underB_of h2).2.2 (underB_of h1).2.2.length_le
    rw [← namesT_put hs, ← namesT_put ht, e]
  · rcases baseT_cases t with ⟨_, _, hf⟩ | ⟨xs, n, hp, hn, hb, hf, g1, g2, g3⟩
    · exact absurd hf h2
    · rw [hf]
      refine underB_mk hs (pathB_pathT g2) ?_
      rw [put_namesT g2]
      refine List.IsPrefix.trans ?_ (underB_of h1).2.2
      rw [hn]
      exact List.prefix_append _ _

/-- P91. -/
theorem name_law {s : ByteArray} (h : nameB s = true) : pathB (⟨#[47]⟩ ++ s) = true ∧ baseT (⟨#[47]⟩ ++ s) = s := by
  have e : (⟨#[47]⟩ : ByteArray) ++ s = pathT [s] := by
    apply ofL_ext
    rw [bytes_append]
    simp [pathT, slashB, ofL_data, slash]
  rw [e]
  have hok := pathOfB_one h
  exact ⟨pathB_pathT hok, by simp [baseT, put_namesT hok]⟩
/-- P109. -/
theorem of_law {xs : List ByteArray} (h : pathOfB xs = true) : pathB (pathOfT xs) = true ∧ namesT (pathOfT xs) = xs := by
  rw [pathOfT, if_pos h]
  exact ⟨pathB_pathT h, put_namesT h⟩
/-- P108. -/
theorem names_law {s : ByteArray} (h : pathB s = true) : pathOfB (namesT s) = true ∧ pathOfT (namesT s) = s ∧ (namesT s).length ≤ 4 := by
  have h1 := namesT_ok h
  exact ⟨h1, by rw [pathOfT, if_pos h1, namesT_put h], (all_nameB h1).1⟩

end Go.Proofs.YtafadedacbjioaaGreatDoor

/- append onto a row of the call's own, of what a slice reads as: the new row, as lists of elements. -/
namespace Go.Proofs.YtafadedacbjioaaGreatDoor
open Go.RowKit
set_option linter.unusedVariables false

/-- A slice type t of elements of type T: cells and bytes an element. -/
structure El (t T sz bytes : Nat) : Prop where
  und : Tryz.prog.underlying t = some (.slice T)
  info : ∃ i z, Tryz.prog.info? T = some i ∧ i.zero = some z ∧ i.size = sz ∧ i.bytes = bytes ∧ z.cells.size = sz
  pos : 0 < sz
theorem El.mk' {t T sz bytes : Nat} {z : Value} (h : Tryz.prog.underlying t = some (.slice T)) (hi : (Tryz.prog.info? T).map (fun i => (i.zero, i.size, i.bytes)) = some (some z, sz, bytes)) (hz : z.cells.size = sz) (hp : 0 < sz) : El t T sz bytes := by
  obtain ⟨i, h1, h2, h3, h4⟩ := info_parts hi
  exact ⟨h, ⟨i, z, h1, h2, h3, h4, hz⟩, hp⟩

/-- Each cell of an element is one cell. -/
def OneC {α : Type} (enc : α → Nat → Value) : Prop := ∀ x j, (enc x j).oneCell' = true
theorem oneC_cells {α : Type} {enc : α → Nat → Value} (h : OneC enc) {sz : Nat} : ∀ (l : List α), ∀ u ∈ cellsOf enc sz l, u.oneCell' = true
  | [], u, hu => by simp [cellsOf] at hu
  | x :: r, u, hu => by
    simp only [cellsOf, List.mem_append, List.mem_map] at hu
    rcases hu with ⟨j, _, rfl⟩ | hu
    · exact h x j
    · exact oneC_cells h r u hu

section
variable {α : Type} {enc : α → Nat → Value} {t T sz bytes base : Nat} {w : World}

theorem addr_add (b off j : Nat) : (⟨b, off, none⟩ : Addr).add j = ⟨b, off + j, none⟩ := by
  unfold Addr.add
  split
  · next h => subst h; simp
  · rfl
/-- The cells that a slice reads as, at its address. -/
theorem RdT.cells {A : Option Addr} {ys : List α} (h : RdT enc sz w A ys) (hn : 0 < ys.length) (hp : 0 < sz) : ∃ ad, A = some ad ∧ ∀ j u, (cellsOf enc sz ys)[j]? = some u → w.cell? (ad.add j) = some u := by
  obtain ⟨b, off, rfl, hb, hc⟩ := h hn
  refine ⟨_, rfl, fun j u hu => ?_⟩
  have hj : j < ys.length * sz := by
    rcases Nat.lt_or_ge j (ys.length * sz) with h' | h'
    · exact h'
    · rw [List.getElem?_eq_none (by rw [cellsOf_length]; exact h')] at hu; cases hu
  have hq : j / sz < ys.length := (Nat.div_lt_iff_lt_mul hp).2 hj
  have hx : ys[j / sz]? = some ys[j / sz] := List.getElem?_eq_getElem hq
  have hr : j % sz < sz := Nat.mod_lt _ hp
  have e : j / sz * sz + j % sz = j := by rw [Nat.mul_comm]; exact Nat.div_add_mod j sz
  have h1 := cellsOf_get (enc := enc) (sz := sz) ys _ _ _ hx hr
  rw [e, hu] at h1
  have h2 := hc _ _ hx _ hr
  rw [addr_add, h1, ← h2, Nat.add_assoc, e]

theorem run_app (E : El t T sz bytes) (ty : TypeId) {v : Value} {xs : List α} (hown : Own enc sz T base w v xs) {A : Option Addr} {ys : List α} {m : Nat} (hm : m = ys.length) (c : Nat) (hr : RdT enc sz w A ys) (h1 : OneC enc)
    (hb : (xs.length + ys.length) * bytes ≤ 140737488355328) (h63 : xs.length + ys.length ≤ maxLen) (hbase : base ≤ w.heap.size) :
    ∃ v' w', (Builtin.append_ #[t, t] ty #[v, .slice A m c]).run Tryz.prog w = .ok v' w' ∧ Own enc sz T base w' v' (xs ++ ys) ∧ w.grownBy w' v.ownBlock ∧ (v'.ownBlock = v.ownBlock ∨ v'.ownBlock = some w.heap.size) := by
  subst hm
  obtain ⟨i, z, hi, hz, hs, hy, hzs⟩ := E.info
  have conv : ∀ {v' : Value} {w' : World}, w'.ownsRow base T sz v' (xs.length + ys.length) (cellsOf enc sz xs ++ cellsOf enc sz ys) → Own enc sz T base w' v' (xs ++ ys) := fun h => by
    unfold Own
    rw [List.length_append, cellsOf_append]
    exact h
  have nilcase : A = none → ys = [] := fun hA => by
    rcases Nat.eq_zero_or_pos ys.length with h0 | h0
    · exact List.length_eq_zero_iff.1 h0
    · obtain ⟨ad, h, _⟩ := hr.cells h0 E.pos
      rw [hA] at h
      cases h
  rcases A with _ | ad
  · have hy0 := nilcase rfl
    subst hy0
    refine ⟨v, w, ?_, by simpa using hown, World.grownBy.refl w _, .inl rfl⟩
    rcases hown.2 with ⟨rfl, h0⟩ | ⟨g, cap, cur, rfl, _, _, hnc, _⟩
    · simp [Builtin.append_, run_underlying E.und, sizeOf, typeInfo, hi, Builtin.lenOf, Builtin.firstCells]
    · simp [Builtin.append_, run_underlying E.und, sizeOf, typeInfo, hi, Builtin.lenOf, Builtin.firstCells, hnc, storeCells]
  · have hcells : ∀ j u, (cellsOf enc sz ys)[j]? = some u → w.cell? (ad.add j) = some u := by
      rcases Nat.eq_zero_or_pos ys.length with h0 | h0
      · have := List.length_eq_zero_iff.1 h0
        subst this
        intro j u hu
        simp [cellsOf] at hu
      · obtain ⟨ad', h, hc⟩ := hr.cells h0 E.pos
        injection h with h
        subst h
        exact hc
    obtain ⟨v', w', hrun, h2, h3, _, h5⟩ := run_append_own_at (P := Tryz.prog) w base t ty T i z sz bytes E.und hi hz hs hy hzs E.pos v xs.length (cellsOf enc sz xs) hown ad ys.length c (cellsOf enc sz ys) (by rw [cellsOf_length]) hcells (oneC_cells h1 ys) h63 hb hbase
    exact ⟨v', w', hrun, conv h2, h3, h5⟩

theorem wp_app {o : Oper} {a : Act} {K : Act → World → Prop} {Q : Exit → Act → World → Prop} (E : El t T sz bytes) (s x : Operand)
    (ho : o.op = .call { callee := .builtin .append, args := #[s, x], argTypes := #[t, t] })
    {v : Value} {xs : List α} (hs : a.eval s = v) (hown : Own enc sz T base w v xs) {A : Option Addr} {ys : List α} {m c : Nat} (hx : a.eval x = .slice A m c) (hm : m = ys.length) (hr : RdT enc sz w A ys) (h1 : OneC enc)
    (hb : (xs.length + ys.length) * bytes ≤ 140737488355328) (h63 : xs.length + ys.length ≤ maxLen) (hbase : base ≤ w.heap.size)
    (h : ∀ v' w', Own enc sz T base w' v' (xs ++ ys) → w.grownBy w' v.ownBlock → (v'.ownBlock = v.ownBlock ∨ v'.ownBlock = some w.heap.size) → K (a.put o.dst v') w') : o.wp Tryz.prog a w K Q := by
  obtain ⟨v', w', hrun, h2, h3, h4⟩ := run_app E o.type hown hm c hr h1 hb h63 hbase
  unfold Oper.wp execOp
  simp only [ho, resolve, invoke, builtin, Sem.run_bind, Sem.run_pure, Result.andThen_ok, List.map_toArray, List.map_cons, List.map_nil, hs, hx, hrun]
  exact h v' w' h2 h3 h4

theorem wpList_app {ops : Array Oper} {rest : List Oper} {o : Oper} {a : Act} {Q : Exit → Act → World → Prop} (E : El t T sz bytes) (hgd : o.guard = none) (s x : Operand)
    (ho : o.op = .call { callee := .builtin .append, args := #[s, x], argTypes := #[t, t] })
    {v : Value} {xs : List α} (hs : a.eval s = v) (hown : Own enc sz T base w v xs) {A : Option Addr} {ys : List α} {m c : Nat} (hx : a.eval x = .slice A m c) (hm : m = ys.length) (hr : RdT enc sz w A ys) (h1 : OneC enc)
    (hb : (xs.length + ys.length) * bytes ≤ 140737488355328) (h63 : xs.length + ys.length ≤ maxLen) (hbase : base ≤ w.heap.size)
    (h : ∀ v' w', Own enc sz T base w' v' (xs ++ ys) → w.grownBy w' v.ownBlock → (v'.ownBlock = v.ownBlock ∨ v'.ownBlock = some w.heap.size) → wpList Tryz.prog ops Q rest (a.put o.dst v') w') : wpList Tryz.prog ops Q (o :: rest) a w :=
  wpList_plain hgd fun _ hK => wp_app E s x ho hs hown hx hm hr h1 hb h63 hbase fun v' w' h2 h3 h4 => hK _ _ (h v' w' h2 h3 h4)

theorem step_app {ops : Array Oper} {o : Oper} {a : Act} {K : Act → World → Prop} {Q : Exit → Act → World → Prop} {F : Prop} (E : El t T sz bytes) (hgd : o.guard = none) (s x : Operand)
    (ho : o.op = .call { callee := .builtin .append, args := #[s, x], argTypes := #[t, t] })
    {v : Value} {xs : List α} (hs : a.eval s = v) (hown : Own enc sz T base w v xs) {A : Option Addr} {ys : List α} {m c : Nat} (hx : a.eval x = .slice A m c) (hm : m = ys.length) (hr : RdT enc sz w A ys) (h1 : OneC enc)
    (hb : (xs.length + ys.length) * bytes ≤ 140737488355328) (h63 : xs.length + ys.length ≤ maxLen) (hbase : base ≤ w.heap.size)
    (h : ∀ v' w', Own enc sz T base w' v' (xs ++ ys) → w.grownBy w' v.ownBlock → (v'.ownBlock = v.ownBlock ∨ v'.ownBlock = some w.heap.size) → K (a.put o.dst v') w') :
    if Region.wanted o (yielded ops a.tmps) = true then Oper.wp Tryz.prog o a w K Q else F := by
  have hw : Region.wanted o (yielded ops a.tmps) = true := by simp [Region.wanted, hgd]
  rw [if_pos hw]
  exact wp_app E s x ho hs hown hx hm hr h1 hb h63 hbase h

/-- An empty literal: a row of the call's own that owns nothing. -/
theorem Own.empty (hb : base ≤ w.heap.size) : Own enc sz T base (w.alloc (.cells #[] T)) (.slice (some ⟨w.heap.size, 0, none⟩) 0 0) ([] : List α) :=
  ⟨by simp [cellsOf], .inr ⟨w.heap.size, 0, #[], rfl, hb, heap_alloc_new w _, Nat.le_refl _, by unfold maxLen; omega, by simp, by simp [cellsOf]⟩⟩
theorem RdT.drop {A : Option Addr} {xs : List α} (h : RdT enc sz w A xs) (k : Nat) {b off : Nat} (hA : A = some ⟨b, off, none⟩) : RdT enc sz w (some ⟨b, off + k * sz, none⟩) (xs.drop k) := fun hn => by
  rw [List.length_drop] at hn
  obtain ⟨b', off', e, hr⟩ := h (by omega)
  rw [hA] at e
  cases e
  exact ⟨b, off + k * sz, rfl, hr.tail k rfl⟩
/-- Behind a law that ends in 'grownBy'. -/
theorem below_grown {w0 W W' : World} {v : Value} {xs : List α} (h : Below w0.heap.size w0 W) (hown : Own enc sz T w0.heap.size W v xs) (hg : W.grownBy W' v.ownBlock) : Below w0.heap.size w0 W' :=
  h.grown hg h.size (fun k hk => by
    rcases hown.2 with ⟨rfl, _⟩ | ⟨g, cap, cur, rfl, hb, _⟩
    · simp [Value.ownBlock] at hk
    · simp [Value.ownBlock] at hk
      omega)
end

end Go.Proofs.YtafadedacbjioaaGreatDoor

/- The frame of a law's proof, once for all laws of this seat: what the walk has to give (the call returns true, and below the heap's size nothing has turned), and how the row's 'post' follows. -/
namespace Go.Proofs.YtafadedacbjioaaGreatDoor
open Go.ChangeShapes Go.WideShapes Go.ChangeAt Go.RowKit

theorem own : ownKnob Tryz.prog.godebug = none := by kernel_rfl
theorem laidOut : laidOutB Tryz.prog = true := by kernel_rfl

/-- The places of a reading of several arguments are places of each one's reading. -/
theorem trodAll_below {H : Type} {enc : TypeId × Value → H} {W W' : World} (bel : Below W.heap.size W W') :
    ∀ (ts : List TypeId) (vs : List Value) (ds : List (DataW H)) (ps : List MemPlace), (∀ t ∈ ts, Tryz.prog.readableRec t = true ∧ t < Tryz.prog.types.size) → (∀ x ∈ ps, x.block < W.heap.size) →
      DataW.TrodAll enc Tryz.prog W 0 (fun _ => true) true ts vs ds ps → DataW.TrodAll enc Tryz.prog W' 0 (fun b => decide (b < W.heap.size)) true ts vs ds ps := by
  intro ts
  induction ts with
  | nil =>
    intro vs ds ps _ _ h
    cases vs <;> cases ds <;> simp_all [DataW.TrodAll]
  | cons t ts ih =>
    intro vs ds ps hr hlt h
    obtain ⟨v, vs', d, ds', p, q, rfl, rfl, rfl, h0, r0⟩ := trodAll_cons h
    refine trodAll_cons_mk (Below.trod laidOut (hr t (by simp)).1 (hr t (by simp)).2 h0 bel (fun x hx => hlt x (by simp [hx]))) ?_
    exact ih vs' ds' q (fun u hu => hr u (by simp [hu])) (fun x hx => hlt x (by simp [hx])) r0

/-- All places of a reading lie in blocks that are there. -/
theorem trodAll_lt {H : Type} {enc : TypeId × Value → H} {W : World} {base : Nat} {spare : Nat → Bool} {held : Bool} :
    ∀ (ts : List TypeId) (vs : List Value) (ds : List (DataW H)) (ps : List MemPlace), DataW.TrodAll enc Tryz.prog W base spare held ts vs ds ps → ∀ x ∈ ps, x.block < W.heap.size := by
  intro ts
  induction ts with
  | nil =>
    intro vs ds ps h x hx
    cases vs <;> cases ds <;> simp_all [DataW.TrodAll]
  | cons t ts ih =>
    intro vs ds ps h x hx
    obtain ⟨v, vs', d, ds', p, q, rfl, rfl, rfl, h0, r0⟩ := trodAll_cons h
    rcases List.mem_append.1 hx with hx | hx
    · obtain ⟨m, hm⟩ := h0
      exact DataW.trod_lt m _ _ _ hm x hx
    · exact ih vs' ds' q r0 x hx

/-- A closed fact on the parameters' types, as 'law_post' wants it. -/
theorem params_ok {fn : Func} (h : fn.params.toList.all (fun t => Tryz.prog.readableRec t && decide (t < Tryz.prog.types.size)) = true) : ∀ t ∈ fn.params.toList, Tryz.prog.readableRec t = true ∧ t < Tryz.prog.types.size := by
  intro t ht
  have := List.all_eq_true.1 h t ht
  simpa using this

/-- THE LAW's POST, out of what its walk gives. -/
theorem law_post {H : Type} {enc : TypeId × Value → H} {fn : Func} {s : ChangeSpec} {W W' : World} {args : Array Value} {ds : List (DataW H)} {before : List MemPlace}
    (hv : s.vars = []) (hres : fn.resultTypes = #[4]) (hr : ∀ t ∈ fn.params.toList, Tryz.prog.readableRec t = true ∧ t < Tryz.prog.types.size)
    (hW : DataW.Whole enc Tryz.prog fn.params.toList s.vars false W args.toList ds [] before)
    (e1 : (s.fn H (ds ++ [])).results = [.lit (.bool true)]) (e2 : (s.fn H (ds ++ [])).args = ds) (e3 : (s.fn H (ds ++ [])).vars = []) (bel : Below W.heap.size W W') :
    s.post enc Tryz.prog fn false true false false W args (.bool true) W' := by
  have hW' := hW
  obtain ⟨p, q, hA, hV, rfl, hfz, hnd⟩ := hW
  refine ⟨ds, [], _, [], p, [], hW', ?_, ?_, ?_, bel.frame _, fun h => by cases h⟩
  · rw [e1, hres]
    exact trodAll_mk1 (shut_bool Tryz.underlying4 _)
  · rw [e2]
    exact trodAll_below bel _ _ _ _ hr (trodAll_lt _ _ _ _ hA) hA
  · rw [e3, hv]
    rfl

end Go.Proofs.YtafadedacbjioaaGreatDoor

/- A code that came in ([]byte), opened: its bytes as a list. -/
namespace Go.Proofs.YtafadedacbjioaaGreatDoor
open Go.ChangeShapes Go.WideShapes Go.ChangeAt Go.RowKit
set_option maxRecDepth 100000

theorem spot_none {w : World} {a : Addr} {v : Value} (h : w.cell? a = some v) : a.spot = none := by simpa using World.cell?_spot h

theorem open_code {H : Type} {enc : TypeId × Value → H} {W : World} {r : Reach} {b0 base : Nat} {v : Value} {d : DataW H} {p : List MemPlace} (hval : Value.okWide Tryz.prog W r b0 83 v) (h : DataW.Trod enc Tryz.prog W base (fun _ => true) true 83 v d p) :
    ∃ (A : Option Addr) (cap : Nat) (zs : List Int), v = .slice A zs.length cap ∧ zs.length ≤ cap ∧ cap ≤ 9223372036854775807 ∧ RdT (encI .u8) 1 W A zs ∧ ∀ z ∈ zs, 0 ≤ z ∧ z ≤ 255 := by
  have hlt : ∀ x ∈ p, x.block < W.heap.size := by obtain ⟨m, hm⟩ := h; exact DataW.trod_lt m _ _ _ hm
  obtain ⟨a0, len0, cap0, rfl⟩ := okWide_slice Tryz.underlying83 hval
  obtain ⟨fuel, hf⟩ := h
  rcases open_ints Tryz.underlying83 Tryz.underlying5 (by kernel_rfl) hf with ⟨hcs, _⟩ | ⟨x, l, c, zs, hcs, _, hl, hm, hz, hx, hcell, hwz⟩
  · simp [Value.cells] at hcs
    obtain ⟨rfl, rfl, rfl⟩ := hcs
    exact ⟨none, 0, [], rfl, Nat.le_refl _, by omega, RdT.none_, fun _ hm => by cases hm⟩
  · simp [Value.cells] at hcs
    obtain ⟨rfl, rfl, rfl⟩ := hcs
    have hz' : zs.length = cap0 := by simpa using hz
    have hlen : (zs.take len0).length = len0 := by rw [List.length_take]; omega
    refine ⟨some x, cap0, zs.take len0, by rw [hlen], by omega, by unfold maxLen at hm; omega, fun hn => ?_, fun z hzm => ?_⟩
    · have h0 : 0 < zs.length := by omega
      obtain ⟨b, off, spot⟩ := x
      have hs := spot_none (hcell 0 h0)
      have hspot : spot = none := by simpa [Addr.add] using hs
      subst hspot
      have hlt' : b < W.heap.size := by
        have := World.block_lt_of_cell? W _ (hcell 0 h0)
        simpa [Addr.add] using this
      refine ⟨b, off, rfl, hlt', fun i z hi j hj => ?_⟩
      obtain rfl : j = 0 := by omega
      have hi' : i < len0 := by
        rcases Nat.lt_or_ge i len0 with h | h
        · exact h
        · rw [List.getElem?_eq_none (by omega)] at hi; cases hi
      have := hcell i (by omega)
      rw [List.getElem?_take, if_pos hi'] at hi
      have e : zs.getD i 0 = z := by simp [List.getD, hi]
      rw [e] at this
      have ea : (⟨b, off, none⟩ : Addr).add i = ⟨b, off + i * 1 + 0, none⟩ := by
        unfold Addr.add
        split
        · next h => subst h; simp
        · simp
      rw [ea] at this
      exact this
    · have := hwz z (List.mem_of_mem_take hzm)
      simpa [Lit.wf, IntKind.min, IntKind.max, IntKind.signed, IntKind.bits] using this

end Go.Proofs.YtafadedacbjioaaGreatDoor

/- Lists of texts: what the laws' own helpers over []string return; the argument opened. -/
namespace Go.Proofs.YtafadedacbjioaaGreatDoor
open Go.RowKit
set_option maxRecDepth 100000
set_option linter.unusedVariables false
set_option linter.unusedSimpArgs false

theorem oneS : OneC encS := fun x j => rfl
theorem info_string : (Tryz.prog.info? 9).map (fun i => (i.zero, i.size, i.bytes)) = some (some (.string ⟨#[]⟩), 1, 16) := by kernel_rfl
theorem elS : El 22 9 1 16 := El.mk' Tryz.underlying22 info_string rfl (by omega)

theorem RdT.str {w : World} {A : Option Addr} {xs : List ByteArray} {k : Nat} (h : RdT encS 1 w A xs) (hk : k < xs.length) :
    ∃ b off s, A = some ⟨b, off, none⟩ ∧ b < w.heap.size ∧ xs[k]? = some s ∧ w.cell? ⟨b, off + k, none⟩ = some (.string s) := by
  obtain ⟨b, off, rfl, hb, hc⟩ := h (by omega)
  have he : xs[k]? = some xs[k] := List.getElem?_eq_getElem hk
  refine ⟨b, off, xs[k], rfl, hb, he, ?_⟩
  have := hc k _ he 0 (by omega)
  simpa [encS] using this

def SPost (w : World) (xs : List ByteArray) (e : Ending) (w' : World) : Prop := ∃ v, e = .returned v ∧ Own encS 1 9 w.heap.size w' v xs ∧ Below w.heap.size w w'

theorem ownsRow_below' {w w' : World} {base : Nat} {e : TypeId} {size : Nat} {v : Value} {n : Nat} {xs : List Value} (h : w.ownsRow base e size v n xs) (hb : Below w.heap.size w w') : w'.ownsRow base e size v n xs := by
  refine ⟨h.1, ?_⟩
  rcases h.2 with h | ⟨g, cap, cur, rfl, hg, hh, r⟩
  · exact .inl h
  · have hlt : g < w.heap.size := by
      rcases Nat.lt_or_ge g w.heap.size with h' | h'
      · exact h'
      · rw [Array.getElem?_eq_none h'] at hh; cases hh
    exact .inr ⟨g, cap, cur, rfl, hg, (hb.block g hlt).trans hh, r⟩

theorem madeS (n : Nat) : (madeCells (Value.string ⟨#[]⟩).cells (n * 1)).toList = cellsOf encS 1 (List.replicate n ⟨#[]⟩) := by
  apply List.ext_getElem?
  intro i
  by_cases hi : i < n
  · have h1 : (List.replicate n (⟨#[]⟩ : ByteArray))[i]? = some ⟨#[]⟩ := by rw [List.getElem?_replicate, if_pos (by omega)]
    have h2 := cellsOf_get (enc := encS) (sz := 1) _ i 0 _ h1 (by omega)
    rw [show i * 1 + 0 = i by omega] at h2
    rw [h2]
    simp [madeCells, Value.cells, hi, encS, Nat.mod_one]
  · rw [List.getElem?_eq_none (by simp [madeCells]; omega), List.getElem?_eq_none (by rw [cellsOf_length, List.length_replicate]; omega)]

set_option maxHeartbeats 2000000 in
theorem toStringS_any (w : World) (A : Option Addr) (cap : Nat) (xs : List ByteArray) (h : RdT encS 1 w A xs) (hc : xs.length ≤ cap) (hm : xs.length ≤ 1048576) :
    Calls Tryz.prog 38 #[.slice A xs.length cap] w (SPost w xs) := by
  have HR := Lib.hid h
  clear h
  obtain ⟨i0, hi, hz0, hz1, hz2⟩ := info_parts info_string
  go_enter Tryz.func38, Tryz.ntmps38
  go_wp2_with (at_make; refine wpList_make_full _ rfl _ _ 22 rfl w.heap.size 9 i0 _ 1 Tryz.underlying22 hi hz0 hz1 .i64 .i64 _ _ xs.length rfl rfl rfl rfl (by rw [hz2]; omega) (by unfold maxLen; omega) (Nat.le_refl _) ?_; intro w1 hown hgrow)
  have hB1 : Below w.heap.size w w1 := (Below.refl _ _).grown hgrow (Nat.le_refl _) (fun k hk => by cases hk)
  rw [madeS] at hown
  go_loopw [4] (fun i wr => ∃ k : Nat, k ≤ xs.length ∧ i = .int .i64 k ∧ Hid (wr.ownsRow w.heap.size 9 1 (.slice (some ⟨w.heap.size, 0, none⟩) xs.length xs.length) xs.length (cellsOf encS 1 (xs.take k ++ List.replicate (xs.length - k) ⟨#[]⟩))) ∧ Hid (Below w.heap.size w wr)) (fun i _ => xs.length - (intOf i).toNat)
  case atStart => exact ⟨0, Nat.zero_le _, rfl, Lib.hid (by simpa using hown), hB1⟩
  case round =>
    clear hown hgrow hB1
    obtain ⟨k, hk, rfl, HO, HB⟩ := hrel
    by_cases hlt : k < xs.length
    · obtain ⟨b, off, s, rfl, hb, he, c0⟩ := (HR.out.below HB.out).str hlt
      have HE := Lib.hid he
      clear he
      have hO2 := HO.out
      have hl : (cellsOf encS 1 (xs.take k ++ List.replicate (xs.length - k) ⟨#[]⟩)).length = xs.length * 1 := hO2.1
      obtain ⟨v0, hv0⟩ : ∃ v0, wr.cell? ⟨w.heap.size, k, none⟩ = some v0 := ⟨_, (hO2.cellAt k (by omega)).trans (List.getElem?_eq_getElem (by omega))⟩
      have hf0 := hO2.frozenAt k
      clear hO2 hl
      go_wp2_with fail
      go_roundw
      case rel =>
        refine ⟨k + 1, by omega, by go_num, ?_, ?_⟩
        · have h1 := (HO.out.stored k (.string s)).1
          have e := cellsOf_set1 (enc := encS) (xs.take k ++ List.replicate (xs.length - k) ⟨#[]⟩) k s (by simp; omega)
          rw [fill_set xs k s _ HE.out] at e
          rw [← e]
          exact h1
        · have := HB.out
          show Below _ _ _
          (repeat (first | assumption | exact Below.refl _ _ | refine below_alloc ?_ _ | refine Below.drew ?_ | refine below_drewN ?_ _ | refine below_set ?_ (by first | exact Nat.le_refl _ | omega | (simp; done) | (simp; omega)) _ | refine below_kp ?_ (by assumption) (by simp) | refine below_below ?_ (by assumption)))
      case measure => simp [intOf]; omega
    · obtain rfl : k = xs.length := by omega
      go_wp2_with fail
      go_ret
      refine ⟨_, rfl, ?_, HB.out⟩
      have := HO.out
      simpa [Own] using this

set_option maxHeartbeats 1000000 in
theorem eqStringS_true (w : World) (A B : Option Addr) (cap dap : Nat) (xs : List ByteArray) (h : RdT encS 1 w A xs) (g : RdT encS 1 w B xs) (hc : xs.length ≤ cap) (hd : xs.length ≤ dap) (hm : cap ≤ 9223372036854775807) :
    Calls Tryz.prog 42 #[.slice A xs.length cap, .slice B xs.length dap] w fun e w' => e = .returned (.bool true) ∧ Below w.heap.size w w' := by
  have HR := Lib.hid h
  have HG := Lib.hid g
  clear h g
  go_enter Tryz.func42, Tryz.ntmps42
  go_wp2_with fail
  go_loopw [5] (fun i wr => ∃ k : Nat, k ≤ xs.length ∧ i = .int .i64 k ∧ Below w.heap.size w wr) (fun i _ => xs.length - (intOf i).toNat)
  case atStart => exact ⟨0, Nat.zero_le _, rfl, Below.refl _ _⟩
  case round =>
    obtain ⟨k, hk, rfl, hB⟩ := hrel
    have HB := Lib.hid hB
    clear hB
    by_cases hlt : k < xs.length
    · obtain ⟨b, off, s, rfl, hb, he, c0⟩ := (HR.out.below HB.out).str hlt
      obtain ⟨b', off', s', rfl, hb', he', c0'⟩ := (HG.out.below HB.out).str hlt
      obtain rfl : s = s' := by rw [he] at he'; cases he'; rfl
      clear he he'
      go_wp2_with fail
      refine wp_quiet_b (by kernel_rfl) (by kernel_rfl) (fun hgrow => ?_)
      repeat (go_big_quiet_step (fail))
      refine wpQuiet_nil ?_
      intro w2 hww2
      replace hww2 := below_of_regrown hww2
      clear hgrow
      go_wp2_with fail
      go_roundw
      case rel => exact ⟨k + 1, by omega, by go_num, by have := HB.out; (repeat (first | assumption | exact Below.refl _ _ | refine below_alloc ?_ _ | refine Below.drew ?_ | refine below_drewN ?_ _ | refine below_set ?_ (by first | exact Nat.le_refl _ | omega | (simp; done) | (simp; omega)) _ | refine below_kp ?_ (by assumption) (by simp) | refine below_below ?_ (by assumption)))⟩
      case measure => simp [intOf]; omega
    · obtain rfl : k = xs.length := by omega
      go_wp2_with fail
      go_ret
      exact ⟨rfl, HB.out⟩

def SzPostS (w : World) (left : Int) (n : Nat) (e : Ending) (w' : World) : Prop := ∃ r : Int, e = .returned (.int .i64 r) ∧ -1 ≤ r ∧ r ≤ left ∧ (0 ≤ r → (n : Int) ≤ left) ∧ Below w.heap.size w w'

set_option maxHeartbeats 1000000 in
theorem szStringS_any (w : World) (A : Option Addr) (cap : Nat) (xs : List ByteArray) (left : Int) (h : RdT encS 1 w A xs) (hc : xs.length ≤ cap) (hm : cap ≤ 9223372036854775807) (hz : ∀ x ∈ xs, x.size ≤ 9223372036854775807) (h0 : 0 ≤ left) (h1 : left ≤ 1048576) :
    Calls Tryz.prog 35 #[.slice A xs.length cap, .int .i64 left] w (SzPostS w left (xs.length + (xs.map (·.size)).sum)) := by
  have HR := Lib.hid h
  have HZ := Lib.hid hz
  clear h hz
  by_cases hs : left - (xs.length : Int) < 0
  · go_enter Tryz.func35, Tryz.ntmps35
    go_wp2
    go_ret
    exact ⟨-1, rfl, by omega, by omega, by omega, Below.refl _ _⟩
  · go_enter Tryz.func35, Tryz.ntmps35
    go_wp2_with fail
    go_loopw [1, 5] (fun l i wr => ∃ (k : Nat) (r : Int), k ≤ xs.length ∧ i = .int .i64 k ∧ l = .int .i64 r ∧ 0 ≤ r ∧ r ≤ left ∧ Hid (r = left - (xs.length : Int) - (((xs.take k).map (·.size)).sum : Nat)) ∧ Below w.heap.size w wr) (fun _ i _ => xs.length - (intOf i).toNat)
    case atStart => exact ⟨0, _, Nat.zero_le _, rfl, rfl, by omega, by omega, Lib.hid (by simp), Below.refl _ _⟩
    case round =>
      obtain ⟨k, r, hk, rfl, rfl, hr0, hr1, HS, hB⟩ := hrel
      have HB := Lib.hid hB
      clear hB
      by_cases hlt : k < xs.length
      · obtain ⟨b, off, s, rfl, hb, he, c0⟩ := (HR.out.below HB.out).str hlt
        have hnz := HZ.out _ (List.mem_of_getElem? he)
        have HT := Lib.hid (show (((xs.take (k + 1)).map (·.size)).sum : Nat) = ((xs.take k).map (·.size)).sum + s.size by
          rw [List.take_add_one, he]
          simp)
        have HL := Lib.hid (show ((xs.take (k + 1)).map (·.size)).sum ≤ (xs.map (·.size)).sum by
          conv => rhs; rw [← List.take_append_drop (k + 1) xs]
          rw [List.map_append, List.sum_append]
          omega)
        clear he
        by_cases hq : r - (s.size : Int) < 0
        · go_wp2_with fail
          go_ret
          exact ⟨-1, rfl, by omega, by omega, by omega, HB.out⟩
        · go_wp2_with fail
          go_roundw
          case rel => exact ⟨k + 1, r - s.size, by omega, by go_num, rfl, by omega, by omega, Lib.hid (by have := HS.out; rw [HT.out]; omega), HB.out⟩
          case measure => simp [intOf]; omega
      · obtain rfl : k = xs.length := by omega
        have HS2 := Lib.hid (show r = left - (xs.length : Int) - ((xs.map (·.size)).sum : Nat) by have := HS.out; rwa [List.take_length] at this)
        go_wp2_with fail
        go_ret
        exact ⟨r, rfl, by omega, by omega, by have := HS2.out; omega, HB.out⟩

open Go.ChangeShapes Go.WideShapes Go.ChangeAt in
/-- A list of texts that came in, opened. -/
theorem open_strs {H : Type} {enc : TypeId × Value → H} {W : World} {r : Reach} {b0 base : Nat} {v : Value} {d : DataW H} {p : List MemPlace} (hval : Value.okWide Tryz.prog W r b0 22 v) (h : DataW.Trod enc Tryz.prog W base (fun _ => true) true 22 v d p) :
    ∃ (A : Option Addr) (cap : Nat) (xs : List ByteArray), v = .slice A xs.length cap ∧ xs.length ≤ cap ∧ cap ≤ 9223372036854775807 ∧ RdT encS 1 W A xs ∧ ∀ x ∈ xs, x.size ≤ 9223372036854775807 := by
  have hlt : ∀ x ∈ p, x.block < W.heap.size := by obtain ⟨m, hm⟩ := h; exact DataW.trod_lt m _ _ _ hm
  obtain ⟨a0, len0, cap0, rfl⟩ := okWide_slice Tryz.underlying22 hval
  obtain ⟨fuel, hf⟩ := h
  rcases open_strings Tryz.underlying22 Tryz.underlying9 (by kernel_rfl) hf with ⟨hcs, _⟩ | ⟨x, l, c, zs, hcs, _, hl, hm, hz, hx, hcell, hwz⟩
  · simp [Value.cells] at hcs
    obtain ⟨rfl, rfl, rfl⟩ := hcs
    exact ⟨none, 0, [], rfl, Nat.le_refl _, by omega, RdT.none_, fun _ hm => by cases hm⟩
  · simp [Value.cells] at hcs
    obtain ⟨rfl, rfl, rfl⟩ := hcs
    have hz' : zs.length = cap0 := by simpa using hz
    have hlen : (zs.take len0).length = len0 := by rw [List.length_take]; omega
    refine ⟨some x, cap0, zs.take len0, by rw [hlen], by omega, by unfold maxLen at hm; omega, fun hn => ?_, fun z hzm => ?_⟩
    · have h0 : 0 < zs.length := by omega
      obtain ⟨b, off, spot⟩ := x
      have hs := spot_none (hcell 0 h0)
      have hspot : spot = none := by simpa [Addr.add] using hs
      subst hspot
      have hlt' : b < W.heap.size := by
        have := World.block_lt_of_cell? W _ (hcell 0 h0)
        simpa [Addr.add] using this
      refine ⟨b, off, rfl, hlt', fun i z hi j hj => ?_⟩
      obtain rfl : j = 0 := by omega
      have hi' : i < len0 := by
        rcases Nat.lt_or_ge i len0 with h | h
        · exact h
        · rw [List.getElem?_eq_none (by omega)] at hi; cases hi
      have := hcell i (by omega)
      rw [List.getElem?_take, if_pos hi'] at hi
      have e : zs.getD i ByteArray.empty = z := by simp [List.getD, hi]
      rw [e] at this
      have ea : (⟨b, off, none⟩ : Addr).add i = ⟨b, off + i * 1 + 0, none⟩ := by
        unfold Addr.add
        split
        · next h => subst h; simp
        · simp
      rw [ea] at this
      exact this
    · have := hwz z (List.mem_of_mem_take hzm)
      unfold maxLen at this
      omega

end Go.Proofs.YtafadedacbjioaaGreatDoor

/- PathOf, the reference's. -/
namespace Go.Proofs.YtafadedacbjioaaGreatDoor
open Go.RowKit
set_option linter.unusedVariables false
set_option linter.unusedSimpArgs false

theorem slashB_step {c : UInt8} {xs : List ByteArray} {k : Nat} {x : ByteArray} (h : xs[k]? = some x) : slashB c (xs.take k) ++ ⟨#[c]⟩ ++ x = slashB c (xs.take (k + 1)) := by
  rw [List.take_add_one, h]
  show _ = slashB c (xs.take k ++ [x])
  rw [slashB_snoc, ByteArray.append_assoc]
theorem slashB_size {c : UInt8} {xs : List ByteArray} (h : ∀ x ∈ xs, x.size ≤ 4) (hn : xs.length ≤ 4) (k : Nat) : (slashB c (xs.take k)).size ≤ 20 := by
  have h1 := slash_len c (xs.take k) (fun x hx => h x (List.mem_of_mem_take hx))
  have h2 : (xs.take k).length ≤ 4 := by rw [List.length_take]; omega
  rw [slashB, ofL_size]
  omega
theorem slashB_empty {c : UInt8} {xs : List ByteArray} (h : xs ≠ []) : slashB c xs ≠ ByteArray.empty := fun e => by
  cases xs with
  | nil => exact h rfl
  | cons x r =>
    have := congrArg (fun b : ByteArray => b.data.toList) e
    simp [slashB, ofL_data, slash] at this

theorem pathOfB_cons {x : ByteArray} {k : Nat} (xs : List ByteArray) (h : xs[k]? = some x) (hn : nameB x = false) : pathOfB xs = false := by
  cases h' : pathOfB xs
  · rfl
  · have := (all_nameB h').2 x (List.mem_of_getElem? h)
    rw [hn] at this
    cases this

def Of2 (w : World) (b : Bool) (s : ByteArray) (e : Ending) (w' : World) : Prop := e = .returned (.tuple #[.string s, .bool b]) ∧ Below w.heap.size w w'

end Go.Proofs.YtafadedacbjioaaGreatDoor

/- Paths, the reference's functions. -/
namespace Go.Proofs.YtafadedacbjioaaGreatDoor
open Go.RowKit
set_option linter.unusedVariables false
set_option linter.unusedSimpArgs false

theorem Own.grown {base : Nat} {w w' : World} {v : Value} {l : List ByteArray} (h : Own encS 1 9 base w v l) (hb : Below w.heap.size w w') : Own encS 1 9 base w' v l := h.below hb

theorem rd_oneS (w : World) (n : ByteArray) : RdT encS 1 (w.alloc (.cells #[.string n] 9)) (some ⟨w.heap.size, 0, none⟩) [n] := fun _ => ⟨w.heap.size, 0, rfl, by simp, fun i x hx j hj => by
  have : i = 0 := by
    rcases i with _ | i
    · rfl
    · simp at hx
  subst this
  simp at hx
  subst hx
  obtain rfl : j = 0 := by omega
  unfold World.cell?
  simp only [heap_alloc_new]
  simp [encS]⟩

theorem own_allocS {base : Nat} {w : World} {v : Value} {l : List ByteArray} (h : Own encS 1 9 base w v l) (o : Obj) : Own encS 1 9 base (w.alloc o) v l := h.below ((Below.refl _ _).alloc (Nat.le_refl _) o)
theorem below_allocS {Wa W : World} (h : Below Wa.heap.size Wa W) (o : Obj) : Below Wa.heap.size Wa (W.alloc o) := h.alloc h.size o
theorem below_grownS {Wa W W' : World} {v : Value} {l : List ByteArray} (h : Below Wa.heap.size Wa W) (hown : Own encS 1 9 Wa.heap.size W v l) (hg : W.grownBy W' v.ownBlock) : Below Wa.heap.size Wa W' := below_grown h hown hg

/-- How far the reference's cut has come: what is cut off, and what is left to cut. -/
def CutRel (W0 : World) (c : UInt8) (s : ByteArray) (k f : Nat) (v : Value) (wr : World) : Prop :=
  ∃ l, Own encS 1 9 W0.heap.size wr v l ∧ f ≤ k ∧ l.map (·.data.toList) ++ cutA c (s.extract f k).data.toList (s.data.toList.drop k) = cutL c s.data.toList ∧ l.length ≤ k ∧ Below W0.heap.size W0 wr

theorem cut_start (c : UInt8) (s : ByteArray) : ([] : List ByteArray).map (·.data.toList) ++ cutA c (s.extract 0 0).data.toList (s.data.toList.drop 0) = cutL c s.data.toList := by
  have : (s.extract 0 0).data.toList = [] := by rw [Lib.extract_from_zero]; rfl
  simp [this, cutL]
theorem drop_byte (s : ByteArray) (k : Nat) (h : k < s.size) : s.data.toList.drop k = s[k] :: s.data.toList.drop (k + 1) := by
  have h' : k < s.data.toList.length := by rw [size_data]; exact h
  rw [List.drop_eq_getElem_cons h']
  rfl
theorem extract_snoc (s : ByteArray) (f k : Nat) (hf : f ≤ k) (h : k < s.size) : (s.extract f (k + 1)).data.toList = (s.extract f k).data.toList ++ [s[k]] := by
  have h' : k < s.data.toList.length := by rw [size_data]; exact h
  have e : ∀ n, (s.extract f n).data.toList = (s.data.toList.take n).drop f := fun n => by
    rw [Lib.extract_data]
    simp [List.drop_take]
  rw [e, e, List.take_add_one, List.getElem?_eq_getElem h', List.drop_append_of_le_length (by rw [List.length_take]; omega)]
  rfl
theorem cut_hit {c : UInt8} {s : ByteArray} {k f : Nat} {l : List ByteArray} (h : k < s.size) (e : s[k] = c) (hf : f ≤ k) (hr : l.map (·.data.toList) ++ cutA c (s.extract f k).data.toList (s.data.toList.drop k) = cutL c s.data.toList) :
    (l ++ [s.extract f k]).map (·.data.toList) ++ cutA c (s.extract (k + 1) (k + 1)).data.toList (s.data.toList.drop (k + 1)) = cutL c s.data.toList := by
  have e0 : (s.extract (k + 1) (k + 1)).data.toList = [] := by
    rw [Lib.extract_data]
    simp
  rw [← hr, e0, drop_byte s k h, cutA, if_pos e]
  simp
theorem cut_miss {c : UInt8} {s : ByteArray} {k f : Nat} {l : List ByteArray} (h : k < s.size) (e : ¬ s[k] = c) (hf : f ≤ k) (hr : l.map (·.data.toList) ++ cutA c (s.extract f k).data.toList (s.data.toList.drop k) = cutL c s.data.toList) :
    l.map (·.data.toList) ++ cutA c (s.extract f (k + 1)).data.toList (s.data.toList.drop (k + 1)) = cutL c s.data.toList := by
  rw [← hr, drop_byte s k h, cutA, if_neg e, extract_snoc s f k hf h]
theorem cut_end {c : UInt8} {s : ByteArray} {f : Nat} {l : List ByteArray} (hr : l.map (·.data.toList) ++ cutA c (s.extract f s.size).data.toList (s.data.toList.drop s.size) = cutL c s.data.toList) : l ++ [s.extract f s.size] = cutB c s := by
  have e0 : s.data.toList.drop s.size = [] := List.drop_of_length_le (by rw [size_data]; exact Nat.le_refl _)
  rw [e0, cutA] at hr
  rw [cutB, ← hr, ← map_ofL_data (l ++ [s.extract f s.size])]
  simp

set_option maxHeartbeats 4000000 in
theorem l2Cut_any (w : World) (s : ByteArray) (c : UInt8) (hs : s.size ≤ 1048576) :
    Calls Tryz.prog 91 #[.string s, .int .u8 (c.toNat : Int)] w (SPost w (cutB c s)) := by
  go_enter Tryz.func91, Tryz.ntmps91
  go_wp2_with fail
  go_loopw [5, 6, 7] (fun v f i wr => ∃ (k j : Nat), k ≤ s.size ∧ j ≤ k ∧ i = .int .i64 k ∧ f = .int .i64 j ∧ Hid (CutRel w c s k j v wr)) (fun v f i _ => s.size - (intOf i).toNat)
  case atStart => exact ⟨0, 0, Nat.zero_le _, Nat.zero_le _, rfl, rfl, Lib.hid ⟨[], Own.empty (Nat.le_refl _), Nat.le_refl _, cut_start c s, by simp, (Below.refl _ _).alloc (Nat.le_refl _) _⟩⟩
  case round =>
    obtain ⟨k, j, hk, hj, rfl, rfl, HC⟩ := hrel
    obtain ⟨l, ho, _, he, hl, hB⟩ := HC.out
    have HO := Lib.hid ho
    have HE := Lib.hid he
    have HB := Lib.hid hB
    clear ho he hB HC
    by_cases hlt : k < s.size
    · have hbk : ((s[k]).toNat : Int) = (c.toNat : Int) ↔ s[k] = c := by
        rw [Int.ofNat_inj]
        exact UInt8.toNat_inj
      have q1 : IntKind.i64.wrap ((k : Int) + 1) = (k : Int) + 1 := IntWalk.i64_in _ (by omega)
      by_cases hc : s[k] = c
      · have e1 : ((s[k]).toNat : Int) = (c.toNat : Int) := hbk.2 hc
        have K1 := Lib.hid (And.intro (show (l.length + 1) * 16 ≤ 140737488355328 by omega) (show l.length + 1 ≤ maxLen by unfold maxLen; omega))
        have HH := Lib.hid (cut_hit hlt hc hj HE.out)
        go_wp2_with (at_builtin; refine wpList_app (ys := ([s.extract j k] : List ByteArray)) elS rfl _ _ rfl (by rfl) (own_allocS HO.out _) (by rfl) rfl (rd_oneS _ _) oneS K1.out.1 K1.out.2 (below_allocS HB.out _).size ?_; intro v1 w1 ownv1 grv1 atv1; have belv1 := Lib.hid (below_grownS (below_allocS HB.out _) (own_allocS HO.out _) grv1))
        exact ⟨⟨k + 1, k + 1, by omega, by omega, by go_num, by go_num, Lib.hid ⟨_, ownv1, by omega, HH.out, by simp; omega, belv1.out⟩⟩, by simp [intOf]; omega⟩
      · have e1 : ¬ ((s[k]).toNat : Int) = (c.toNat : Int) := fun h => hc (hbk.1 h)
        have HH := Lib.hid (cut_miss hlt hc hj HE.out)
        go_wp2_with fail
        exact ⟨⟨k + 1, j, by omega, by omega, by go_num, rfl, Lib.hid ⟨l, HO.out, by omega, HH.out, by omega, HB.out⟩⟩, by simp [intOf]; omega⟩
    · obtain rfl : k = s.size := by omega
      have K1 := Lib.hid (And.intro (show (l.length + 1) * 16 ≤ 140737488355328 by omega) (show l.length + 1 ≤ maxLen by unfold maxLen; omega))
      have HH := Lib.hid (cut_end HE.out)
      go_wp2_with (at_builtin; refine wpList_app (ys := ([s.extract j s.size] : List ByteArray)) elS rfl _ _ rfl (by rfl) (own_allocS HO.out _) (by rfl) rfl (rd_oneS _ _) oneS K1.out.1 K1.out.2 (below_allocS HB.out _).size ?_; intro v1 w1 ownv1 grv1 atv1; have belv1 := Lib.hid (below_grownS (below_allocS HB.out _) (own_allocS HO.out _) grv1))
      rw [HH.out] at ownv1
      all_goals exact bodyPost_ret (v := v1) (by simp [results, Tryz.results91, go_sem]) rfl ⟨_, rfl, ownv1, belv1.out⟩

end Go.Proofs.YtafadedacbjioaaGreatDoor

/- Lists of numbers: what the laws' own helpers over []int return; the argument opened. -/
namespace Go.Proofs.YtafadedacbjioaaGreatDoor
open Go.RowKit
set_option maxRecDepth 100000
set_option linter.unusedVariables false
set_option linter.unusedSimpArgs false

theorem spot_noneN {w : World} {a : Addr} {v : Value} (h : w.cell? a = some v) : a.spot = none := by simpa using World.cell?_spot h

def encN (z : Int) (_ : Nat) : Value := .int .i64 z
theorem oneN : OneC encN := fun x j => rfl
theorem info_int : (Tryz.prog.info? 3).map (fun i => (i.zero, i.size, i.bytes)) = some (some (.int .i64 0), 1, 8) := by kernel_rfl
theorem elN : El 23 3 1 8 := El.mk' Tryz.underlying23 info_int rfl (by omega)

theorem RdT.num {w : World} {A : Option Addr} {xs : List Int} {k : Nat} (h : RdT encN 1 w A xs) (hk : k < xs.length) :
    ∃ b off s, A = some ⟨b, off, none⟩ ∧ b < w.heap.size ∧ xs[k]? = some s ∧ w.cell? ⟨b, off + k, none⟩ = some (.int .i64 s) := by
  obtain ⟨b, off, rfl, hb, hc⟩ := h (by omega)
  have he : xs[k]? = some xs[k] := List.getElem?_eq_getElem hk
  refine ⟨b, off, xs[k], rfl, hb, he, ?_⟩
  have := hc k _ he 0 (by omega)
  simpa [encN] using this

def NPost (w : World) (xs : List Int) (e : Ending) (w' : World) : Prop := ∃ v, e = .returned v ∧ Own encN 1 3 w.heap.size w' v xs ∧ Below w.heap.size w w'

theorem ownsRow_belowN {w w' : World} {base : Nat} {e : TypeId} {size : Nat} {v : Value} {n : Nat} {xs : List Value} (h : w.ownsRow base e size v n xs) (hb : Below w.heap.size w w') : w'.ownsRow base e size v n xs := by
  refine ⟨h.1, ?_⟩
  rcases h.2 with h | ⟨g, cap, cur, rfl, hg, hh, r⟩
  · exact .inl h
  · have hlt : g < w.heap.size := by
      rcases Nat.lt_or_ge g w.heap.size with h' | h'
      · exact h'
      · rw [Array.getElem?_eq_none h'] at hh; cases hh
    exact .inr ⟨g, cap, cur, rfl, hg, (hb.block g hlt).trans hh, r⟩

theorem madeN (n : Nat) : (madeCells (Value.int .i64 0).cells (n * 1)).toList = cellsOf encN 1 (List.replicate n 0) := by
  apply List.ext_getElem?
  intro i
  by_cases hi : i < n
  · have h1 : (List.replicate n (0 : Int))[i]? = some 0 := by rw [List.getElem?_replicate, if_pos (by omega)]
    have h2 := cellsOf_get (enc := encN) (sz := 1) _ i 0 _ h1 (by omega)
    rw [show i * 1 + 0 = i by omega] at h2
    rw [h2]
    simp [madeCells, Value.cells, hi, encN, Nat.mod_one]
  · rw [List.getElem?_eq_none (by simp [madeCells]; omega), List.getElem?_eq_none (by rw [cellsOf_length, List.length_replicate]; omega)]

set_option maxHeartbeats 2000000 in
theorem toIntS_any (w : World) (A : Option Addr) (cap : Nat) (xs : List Int) (h : RdT encN 1 w A xs) (hc : xs.length ≤ cap) (hm : xs.length ≤ 1048576) :
    Calls Tryz.prog 64 #[.slice A xs.length cap] w (NPost w xs) := by
  have HR := Lib.hid h
  clear h
  obtain ⟨i0, hi, hz0, hz1, hz2⟩ := info_parts info_int
  go_enter Tryz.func64, Tryz.ntmps64
  go_wp2_with (at_make; refine wpList_make_full _ rfl _ _ 23 rfl w.heap.size 3 i0 _ 1 Tryz.underlying23 hi hz0 hz1 .i64 .i64 _ _ xs.length rfl rfl rfl rfl (by rw [hz2]; omega) (by unfold maxLen; omega) (Nat.le_refl _) ?_; intro w1 hown hgrow)
  have hB1 : Below w.heap.size w w1 := (Below.refl _ _).grown hgrow (Nat.le_refl _) (fun k hk => by cases hk)
  rw [madeN] at hown
  go_loopw [4] (fun i wr => ∃ k : Nat, k ≤ xs.length ∧ i = .int .i64 k ∧ Hid (wr.ownsRow w.heap.size 3 1 (.slice (some ⟨w.heap.size, 0, none⟩) xs.length xs.length) xs.length (cellsOf encN 1 (xs.take k ++ List.replicate (xs.length - k) 0))) ∧ Hid (Below w.heap.size w wr)) (fun i _ => xs.length - (intOf i).toNat)
  case atStart => exact ⟨0, Nat.zero_le _, rfl, Lib.hid (by simpa using hown), hB1⟩
  case round =>
    clear hown hgrow hB1
    obtain ⟨k, hk, rfl, HO, HB⟩ := hrel
    by_cases hlt : k < xs.length
    · obtain ⟨b, off, s, rfl, hb, he, c0⟩ := (HR.out.below HB.out).num hlt
      have HE := Lib.hid he
      clear he
      have hO2 := HO.out
      have hl : (cellsOf encN 1 (xs.take k ++ List.replicate (xs.length - k) 0)).length = xs.length * 1 := hO2.1
      obtain ⟨v0, hv0⟩ : ∃ v0, wr.cell? ⟨w.heap.size, k, none⟩ = some v0 := ⟨_, (hO2.cellAt k (by omega)).trans (List.getElem?_eq_getElem (by omega))⟩
      have hf0 := hO2.frozenAt k
      clear hO2 hl
      go_wp2_with fail
      go_roundw
      case rel =>
        refine ⟨k + 1, by omega, by go_num, ?_, ?_⟩
        · have h1 := (HO.out.stored k (.int .i64 s)).1
          have e := cellsOf_set1 (enc := encN) (xs.take k ++ List.replicate (xs.length - k) 0) k s (by simp; omega)
          rw [fill_set xs k s _ HE.out] at e
          rw [← e]
          exact h1
        · have := HB.out
          show Below _ _ _
          (repeat (first | assumption | exact Below.refl _ _ | refine below_alloc ?_ _ | refine Below.drew ?_ | refine below_drewN ?_ _ | refine below_set ?_ (by first | exact Nat.le_refl _ | omega | (simp; done) | (simp; omega)) _ | refine below_kp ?_ (by assumption) (by simp) | refine below_below ?_ (by assumption)))
      case measure => simp [intOf]; omega
    · obtain rfl : k = xs.length := by omega
      go_wp2_with fail
      go_ret
      refine ⟨_, rfl, ?_, HB.out⟩
      have := HO.out
      simpa [Own] using this

set_option maxHeartbeats 1000000 in
theorem eqIntS_true (w : World) (A B : Option Addr) (cap dap : Nat) (xs : List Int) (h : RdT encN 1 w A xs) (g : RdT encN 1 w B xs) (hc : xs.length ≤ cap) (hd : xs.length ≤ dap) (hm : cap ≤ 9223372036854775807) :
    Calls Tryz.prog 24 #[.slice A xs.length cap, .slice B xs.length dap] w fun e w' => e = .returned (.bool true) ∧ Below w.heap.size w w' := by
  have HR := Lib.hid h
  have HG := Lib.hid g
  clear h g
  go_enter Tryz.func24, Tryz.ntmps24
  go_wp2_with fail
  go_loopw [5] (fun i wr => ∃ k : Nat, k ≤ xs.length ∧ i = .int .i64 k ∧ Below w.heap.size w wr) (fun i _ => xs.length - (intOf i).toNat)
  case atStart => exact ⟨0, Nat.zero_le _, rfl, Below.refl _ _⟩
  case round =>
    obtain ⟨k, hk, rfl, hB⟩ := hrel
    have HB := Lib.hid hB
    clear hB
    by_cases hlt : k < xs.length
    · obtain ⟨b, off, s, rfl, hb, he, c0⟩ := (HR.out.below HB.out).num hlt
      obtain ⟨b', off', s', rfl, hb', he', c0'⟩ := (HG.out.below HB.out).num hlt
      obtain rfl : s = s' := by rw [he] at he'; cases he'; rfl
      clear he he'
      go_wp2_with fail
      refine wp_quiet_b (by kernel_rfl) (by kernel_rfl) (fun hgrow => ?_)
      repeat (go_big_quiet_step (fail))
      refine wpQuiet_nil ?_
      intro w2 hww2
      replace hww2 := below_of_regrown hww2
      clear hgrow
      go_wp2_with fail
      go_roundw
      case rel => exact ⟨k + 1, by omega, by go_num, by have := HB.out; (repeat (first | assumption | exact Below.refl _ _ | refine below_alloc ?_ _ | refine Below.drew ?_ | refine below_drewN ?_ _ | refine below_set ?_ (by first | exact Nat.le_refl _ | omega | (simp; done) | (simp; omega)) _ | refine below_kp ?_ (by assumption) (by simp) | refine below_below ?_ (by assumption)))⟩
      case measure => simp [intOf]; omega
    · obtain rfl : k = xs.length := by omega
      go_wp2_with fail
      go_ret
      exact ⟨rfl, HB.out⟩

open Go.ChangeShapes Go.WideShapes Go.ChangeAt in
/-- A list of numbers that came in, opened, out of its reading. -/
theorem open_nums {H : Type} {enc : TypeId × Value → H} {W : World} {base fuel : Nat} {v : Value} {x : DataW H × List MemPlace} (h : DataW.trod enc Tryz.prog W base (fun _ => true) true fuel 23 [v] = some x) :
    ∃ (A : Option Addr) (cap : Nat) (xs : List Int), v = .slice A xs.length cap ∧ xs.length ≤ cap ∧ cap ≤ 9223372036854775807 ∧ RdT encN 1 W A xs := by
  rcases open_ints Tryz.underlying23 Tryz.underlying3 (by kernel_rfl) h with ⟨hcs, _⟩ | ⟨x, l, c, zs, hcs, _, hl, hm, hz, hx, hcell, hwz⟩
  · simp at hcs
    subst hcs
    exact ⟨none, 0, [], rfl, Nat.le_refl _, by omega, RdT.none_⟩
  · simp at hcs
    subst hcs
    have hz' : zs.length = c := by simpa using hz
    have hlen : (zs.take l).length = l := by rw [List.length_take]; omega
    refine ⟨some x, c, zs.take l, by rw [hlen], by omega, by unfold maxLen at hm; omega, fun hn => ?_⟩
    have h0 : 0 < zs.length := by omega
    obtain ⟨b, off, spot⟩ := x
    have hs := spot_noneN (hcell 0 h0)
    have hspot : spot = none := by simpa [Addr.add] using hs
    subst hspot
    have hlt' : b < W.heap.size := by
      have := World.block_lt_of_cell? W _ (hcell 0 h0)
      simpa [Addr.add] using this
    refine ⟨b, off, rfl, hlt', fun i z hi j hj => ?_⟩
    obtain rfl : j = 0 := by omega
    have hi' : i < l := by
      rcases Nat.lt_or_ge i l with h | h
      · exact h
      · rw [List.getElem?_eq_none (by omega)] at hi; cases hi
    have := hcell i (by omega)
    rw [List.getElem?_take, if_pos hi'] at hi
    have e : zs.getD i 0 = z := by simp [List.getD, hi]
    rw [e] at this
    have ea : (⟨b, off, none⟩ : Addr).add i = ⟨b, off + i * 1 + 0, none⟩ := by
      unfold Addr.add
      split
      · next h => subst h; simp
      · simp
    rw [ea] at this
    exact this

end Go.Proofs.YtafadedacbjioaaGreatDoor

/- The program's PtrPut: its parts, its loop. -/
namespace Go.Proofs.YtafadedacbjioaaGreatDoor
open Go.RowKit
set_option maxRecDepth 100000
set_option linter.unusedVariables false
set_option linter.unusedSimpArgs false

set_option maxHeartbeats 4000000 in
theorem parts_any (w : World) (b : Nat) (hb : b < w.heap.size) : Calls Tryz.prog 100 #[.pointer (some ⟨b, 0, none⟩)] w fun e w' => e = .returned (.slice (some ⟨w.heap.size, 0, none⟩) 5 5) ∧ BoxAt w' w.heap.size #[.pointer (some ⟨b, 0, none⟩), .pointer (some ⟨b, 1, none⟩), .pointer (some ⟨b, 2, none⟩), .pointer (some ⟨b, 3, none⟩), .pointer (some ⟨b, 4, none⟩)] 122 ∧ Below w.heap.size w w' := by
  go_enter Tryz.func100, Tryz.ntmps100
  go_wp2_with fail
  go_region_with fail
  all_goals go_wp2_with fail
  all_goals go_ret
  all_goals exact ⟨rfl, box_new _ _ _, by (repeat (first | assumption | exact Below.refl _ _ | refine below_alloc ?_ _ | refine Below.drew ?_ | refine below_drewN ?_ _ | refine below_set ?_ (by first | exact Nat.le_refl _ | omega | (simp; done) | (simp; omega)) _ | refine below_kp ?_ (by assumption) (by simp) | refine below_below ?_ (by assumption)))⟩

/-- The texts of the first k numbers, appended. -/
def NumRel (w : World) (zs : List Int) (k : Nat) (v : Value) (wr : World) : Prop := Own encS 1 9 w.heap.size wr v ((zs.take k).map numT) ∧ Below w.heap.size w wr
theorem joinDot_any (w : World) (A : Option Addr) (cap : Nat) (xs : List ByteArray) (h : RdT encS 1 w A xs) (hn : 0 < xs.length) (hc : xs.length ≤ cap) (hlen : (Lib.join (xs.map (·.data.toList)) [46]).length ≤ 1000) (hx : xs.length ≤ 10) :
    Calls Tryz.prog 104 #[.slice A xs.length cap, .string ⟨#[46]⟩] w fun e w' => e = .returned (.string (ofL (Lib.join (xs.map (·.data.toList)) [46]))) ∧ Below w.heap.size w w' := by
  obtain ⟨b, off, rfl, hb, hr⟩ := h hn
  exact Tryz.strings_Join b off cap xs ⟨#[46]⟩ w (fun j x hj => by have := hr j x hj 0 (by omega); simpa [encS] using this) hb (by omega) hc (by have e : (⟨#[46]⟩ : ByteArray).data.toList = [46] := rfl; rw [e]; omega)
set_option maxHeartbeats 4000000 in
theorem ptrPut_any (w : World) (p : Pt) (hT : TenAt w) : Calls Tryz.prog 102 #[p.v] w fun e w' => e = .returned (.string (ptrT p)) ∧ Below w.heap.size w w' := by
  have HTen := Lib.hid hT
  clear hT
  have HO := Lib.hid (fun w => ptrOk_any p w)
  have HH := Lib.hid (fun w => ptrHole_any p w)
  have HT : Hid (ptrB p = false → ptrT p = ⟨#[]⟩) := Lib.hid (fun h => by rw [ptrT, if_neg (by simp [h])])
  have HT1 : Hid (ptrB p = true → holeB p = true → ptrT p = ⟨#[45]⟩) := Lib.hid (fun h h2 => by rw [ptrT, if_pos h, ptrL, if_pos h2]; rfl)
  have HBD := Lib.hid (fun (h : ptrB p = true) => ptr_bounds h)
  have HT2 : Hid (ptrB p = true → holeB p = false → ptrT p = ofL (Lib.join ([decT p.at_, decT p.birth, decT p.size, decT p.sum, decT p.level].map (·.data.toList)) [46])) := Lib.hid (fun h h2 => by
    rw [ptrT, if_pos h, ptrL, if_neg (by simp [h2])]
    simp [Lib.join, decT_data])
  have hTS : (ptrT p).size ≤ 49 := by
    unfold ptrT
    split
    · next h => rw [ofL_size]; exact (ptrL_len h).2
    · exact Nat.zero_le _
  generalize ptrT p = T at *
  obtain ⟨a, b, s, u, l⟩ := p
  unfold Pt.v at *
  dsimp only at *
  have HBa := Lib.hid (below_alloc (Below.refl w.heap.size w) (.cells #[.int .i64 a, .int .i64 b, .int .i64 s, .int .i64 u, .int .i64 l] 40))
  have BX := Lib.hid (box_new w #[.int .i64 a, .int .i64 b, .int .i64 s, .int .i64 u, .int .i64 l] 40)
  go_enter Tryz.func102, Tryz.ntmps102
  go_wp2_with fail
  refine Calls.mono (HO.out _) ?_
  rintro e w1 ⟨rfl, hB⟩
  have HB1 := Lib.hid (below_below HBa.out hB)
  have BX1 := Lib.hid (BX.out.below hB)
  have c1 := BX1.out.cell
  have f1 := BX1.out.froz
  have l1 := BX1.out.lt
  clear hB BX HBa
  cases hk : ptrB ⟨a, b, s, u, l⟩
  · obtain rfl := HT.out hk
    go_wp2_with fail
    go_ret
    exact ⟨rfl, HB1.out⟩
  go_wp2_with fail
  refine Calls.mono (HH.out _) ?_
  rintro e w2 ⟨rfl, hB⟩
  have HB2 := Lib.hid (below_below HB1.out hB)
  have BX2 := Lib.hid (BX1.out.below hB)
  clear hB c1 f1 l1 BX1 HB1
  cases hh : holeB ⟨a, b, s, u, l⟩
  · have hT2 := HT2.out hk hh
    obtain ⟨a0, a1, b0, b1, s0, s1, u0, u1, m0, m1⟩ := HBD.out hk
    clear HT HT1 HT2 HBD HO HH
    have HTT := Lib.hid hT2
    have HTS := Lib.hid hTS
    clear hTS
    have c2 := BX2.out.cell
    have f2 := BX2.out.froz
    have l2 := BX2.out.lt
    have HPA := Lib.hid (parts_any w2 w.heap.size l2)
    clear hT2
    go_wp2_with fail
    refine Calls.mono HPA.out ?_
    rintro e w3 ⟨rfl, hP, hB⟩
    have HB3 := Lib.hid (below_below HB2.out hB)
    have BX3 := Lib.hid (BX2.out.below hB)
    have HP := Lib.hid hP
    have h23 : w.heap.size ≤ w2.heap.size := Nat.le_of_lt l2
    clear hB hP c2 f2 BX2 HPA HB2
    have HZ := Lib.hid (show [a, b, s, u, l].map numT = [decT a, decT b, decT s, decT u, decT l] by simp only [List.map]; rw [numT_dec a0 a1, numT_dec b0 b1, numT_dec s0 s1, numT_dec u0 u1, numT_dec m0 m1])
    clear a0 a1 b0 b1 s0 s1 u0 u1 m0 m1
    have HC : Hid (∀ k, k < 5 → ∃ z, [a, b, s, u, l][k]? = some z ∧ (#[Value.int .i64 a, .int .i64 b, .int .i64 s, .int .i64 u, .int .i64 l] : Array Value)[k]? = some (.int .i64 z) ∧ (#[Value.pointer (some ⟨w.heap.size, 0, none⟩), .pointer (some ⟨w.heap.size, 1, none⟩), .pointer (some ⟨w.heap.size, 2, none⟩), .pointer (some ⟨w.heap.size, 3, none⟩), .pointer (some ⟨w.heap.size, 4, none⟩)] : Array Value)[k]? = some (.pointer (some ⟨w.heap.size, k, none⟩))) := Lib.hid (fun k hk => by
      rcases k with _ | _ | _ | _ | _ | k
      · exact ⟨a, rfl, rfl, rfl⟩
      · exact ⟨b, rfl, rfl, rfl⟩
      · exact ⟨s, rfl, rfl, rfl⟩
      · exact ⟨u, rfl, rfl, rfl⟩
      · exact ⟨l, rfl, rfl, rfl⟩
      · omega)
    have HL5 := Lib.hid (show [a, b, s, u, l].length = 5 from rfl)
    have BX4 := Lib.hid (And.intro BX3.out HP.out)
    clear BX3 HP
    generalize [a, b, s, u, l] = zs at *
    generalize (#[Value.int .i64 a, .int .i64 b, .int .i64 s, .int .i64 u, .int .i64 l] : Array Value) = cs at *
    generalize (#[Value.pointer (some ⟨w.heap.size, 0, none⟩), .pointer (some ⟨w.heap.size, 1, none⟩), .pointer (some ⟨w.heap.size, 2, none⟩), .pointer (some ⟨w.heap.size, 3, none⟩), .pointer (some ⟨w.heap.size, 4, none⟩)] : Array Value) = ps at *
    go_wp2_with fail
    go_loopw [3, 15] (fun v y wr => ∃ k : Nat, k ≤ 5 ∧ y = .int .i64 k ∧ Hid (NumRel w3 zs k v wr)) (fun v y _ => 5 - (intOf y).toNat)
    case atStart => exact ⟨0, Nat.zero_le _, rfl, Lib.hid ⟨Own.nil, Below.refl _ _⟩⟩
    case round =>
      obtain ⟨k, hk5, rfl, hA⟩ := hrel
      obtain ⟨ho, hW⟩ := hA.out
      have HO := Lib.hid ho
      have HB := Lib.hid (below_below HB3.out hW)
      replace hW := Lib.hid hW
      clear ho hA
      by_cases hlt : k < 5
      · obtain ⟨z, hz, hc1, hc2⟩ := HC.out k hlt
        have d1 : wr.cell? ⟨w.heap.size, k, none⟩ = some (.int .i64 z) := ((BX4.out.1.below hW.out).cell k).trans hc1
        have d2 : wr.cell? ⟨w2.heap.size, k, none⟩ = some (.pointer (some ⟨w.heap.size, k, none⟩)) := ((BX4.out.2.below hW.out).cell k).trans hc2
        have k2 : IntKind.i64.wrap ((k : Int) + 1) = (k : Int) + 1 := IntWalk.i64_in _ (by omega)
        have HN := Lib.hid (numPut_any z wr (HTen.out.below HB.out))
        have hlk : ((zs.take k).map numT).length = k := by have := HL5.out; simp; omega
        have K1 := Lib.hid (And.intro (show (((zs.take k).map numT).length + 1) * 16 ≤ 140737488355328 by omega) (show ((zs.take k).map numT).length + 1 ≤ maxLen by unfold maxLen; omega))
        have HZZ := Lib.hid (show (zs.take k).map numT ++ [numT z] = (zs.take (k + 1)).map numT by rw [List.take_add_one, hz]; simp)
        clear hlk hz hc1 hc2
        go_wp2_with fail
        refine Calls.mono HN.out ?_
        rintro e w5 ⟨rfl, hB1⟩
        have HB1 := Lib.hid (below_below HB.out hB1)
        have HO1 := Lib.hid (HO.out.below hB1)
        have HW1 := Lib.hid (below_below hW.out hB1)
        clear hB1
        go_wp2_with (at_builtin; refine wpList_app (ys := ([numT z] : List ByteArray)) elS rfl _ _ rfl (by rfl) (own_allocS HO1.out _) (by rfl) rfl (rd_oneS _ _) oneS K1.out.1 K1.out.2 (below_alloc HW1.out _).size ?_; intro v1 w4 ownv1 grv1 atv1)
        refine ⟨⟨k + 1, by omega, rfl, Lib.hid ⟨by rw [← HZZ.out]; exact ownv1, below_grown (below_alloc HW1.out _) (own_allocS HO1.out _) grv1⟩⟩, by simp [intOf]; omega⟩
      · obtain rfl : k = 5 := by omega
        have ho := HO.out
        rw [List.take_of_length_le (by have := HL5.out; omega), HZ.out] at ho
        have HX : Hid ((Lib.join (([decT a, decT b, decT s, decT u, decT l] : List ByteArray).map (·.data.toList)) [46]).length ≤ 1000 ∧ [decT a, decT b, decT s, decT u, decT l].length = 5) := Lib.hid ⟨by have := HTS.out; rw [HTT.out, ofL_size] at this; omega, rfl⟩
        generalize [decT a, decT b, decT s, decT u, decT l] = xs at *
        obtain ⟨A, cap, rfl, q1, q2, q3, hr⟩ := ho.form
        have HJ := Lib.hid (joinDot_any wr A cap xs hr (by have := HX.out.2; omega) q1 HX.out.1 (by have := HX.out.2; omega))
        rw [← HTT.out] at HJ
        clear ho HO q3 hr HX HTT
        generalize xs.length = m at *
        go_wp2_with fail
        refine Calls.mono HJ.out ?_
        rintro e w5 ⟨rfl, hB1⟩
        have HB1 := Lib.hid (below_below HB.out hB1)
        clear hB1
        go_wp2_with fail
        go_ret
        exact ⟨rfl, HB1.out⟩
  · obtain rfl := HT1.out hk hh
    go_wp2_with fail
    go_ret
    exact ⟨rfl, HB2.out⟩
end Go.Proofs.YtafadedacbjioaaGreatDoor

/- A strings.Builder that a call made itself: written, counted, read; by the kit's contracts. -/
namespace Go.Proofs.YtafadedacbjioaaGreatDoor
open Go.RowKit Go.Shelf
set_option maxRecDepth 100000
set_option linter.unusedVariables false

/-- The builder at block b holds the bytes l. -/
def BuildAt (B b : Nat) (l : List UInt8) (w : World) : Prop := Lib.IsBuilderF 85 5 B b (Lib.byteCells l) w ∧ B ≤ w.heap.size
theorem ownsRowF_below {w w' : World} {base : Nat} {e : TypeId} {size : Nat} {v : Value} {n : Nat} {xs : List Value} (h : w.ownsRowF base e size v n xs) (hb : Below w.heap.size w w') : w'.ownsRowF base e size v n xs :=
  h.kept (row := none) ⟨hb.os, hb.tape, hb.output, hb.size, fun k hk _ => hb.block k hk⟩ (by cases hv : v.ownBlock <;> simp)
theorem BuildAt.below {B b : Nat} {l : List UInt8} {w w' : World} (h : BuildAt B b l w) (hb : Below w.heap.size w w') : BuildAt B b l w' := by
  obtain ⟨h, hB⟩ := h
  refine ⟨?_, Nat.le_trans hB hb.size⟩
  have one : ∀ p, Lib.BuilderAtF 85 5 B b p (Lib.byteCells l) w → Lib.BuilderAtF 85 5 B b p (Lib.byteCells l) w' := fun p hp => by
    have hlt := hp.lt
    obtain ⟨h1, v, h2, h3, h4⟩ := hp
    exact ⟨h1, v, (hb.block b hlt).trans h2, ownsRowF_below h3 hb, h4⟩
  exact h.elim (fun x => .inl (one _ x)) (fun x => .inr (one _ x))
theorem build_new (w : World) : BuildAt w.heap.size w.heap.size [] (w.alloc (.cells #[.pointer none, .slice none 0 0] 85)) :=
  ⟨Lib.IsBuilderF.of (Lib.fresh_isBuilder _ _ _), by rw [World.size_alloc]; omega⟩
theorem BuildAt.lt {B b : Nat} {l : List UInt8} {w : World} (h : BuildAt B b l w) : b < w.heap.size := h.1.elim (fun x => x.lt) (fun x => x.lt)
theorem writeString_any {B b : Nat} {l : List UInt8} {w : World} (s : ByteArray) (h : BuildAt B b l w) (hl : l.length + s.size ≤ 140737488355328) :
    Calls Tryz.prog 61 #[.pointer (some ⟨b, 0, none⟩), .string s] w fun e w' => e = .returned (.tuple #[.int .i64 s.size, .nilIface]) ∧ BuildAt B b (l ++ s.data.toList) w' ∧ Below B w w' :=
  (Any.Builder_WriteString_k { Tryz.lays156 with } Tryz.Builder_Extra_156 B b (Lib.byteCells l) s w h.1 (by rw [Lib.byteCells_length]; exact hl) h.2).mono fun e w' ⟨he, h1, h2, _⟩ =>
    ⟨he, ⟨.inr (by rw [Lib.byteCells_append, ← Lib.strCells_eq]; exact h1), Nat.le_trans h.2 h2.size⟩, h2⟩
theorem buildString_any {B b : Nat} {l : List UInt8} {w : World} (h : BuildAt B b l w) :
    Calls Tryz.prog 62 #[.pointer (some ⟨b, 0, none⟩)] w fun e w' => e = .returned (.string (ofL l)) ∧ BuildAt B b l w' ∧ Below B w w' :=
  (Tryz.Builder_String_any_k B b l w h.1 h.2).mono fun e w' ⟨he, h1, h2, _⟩ => ⟨he, ⟨h1, Nat.le_trans h.2 h2.size⟩, h2⟩

end Go.Proofs.YtafadedacbjioaaGreatDoor

/- Records: put, both texts. -/
namespace Go.Proofs.YtafadedacbjioaaGreatDoor
open Go.RowKit Go.Sort
set_option maxRecDepth 100000
set_option linter.unusedVariables false
set_option linter.unusedSimpArgs false
attribute [local go_sem ↓] Go.wp_at_zero Go.wp_at_succ

theorem rec_step {l : List ByteArray} {k : Nat} {s : ByteArray} (h : l[k]? = some s) : recL (l.take (k + 1)) = recL (l.take k) ++ fldL s := by
  rw [List.take_add_one, h, recL_app]
  simp [recL]
theorem rec_take_le (l : List ByteArray) (k : Nat) : (recL (l.take k)).length ≤ (recL l).length := by
  conv => rhs; rw [← List.take_append_drop k l, recL_app, List.length_append]
  omega
theorem rec_big {l : List ByteArray} {k : Nat} (h : 2048 < (recL (l.take k)).length) : recB l = false := by
  have := rec_take_le l k
  rw [recB, Bool.and_eq_false_iff]
  exact .inr (decide_eq_false (by omega))
theorem rec_long {l : List ByteArray} (h : 60 < l.length) : recB l = false := by
  rw [recB, Bool.and_eq_false_iff]
  exact .inl (decide_eq_false (by omega))
theorem rec_fits {l : List ByteArray} (h : l.length ≤ 60) (h2 : (recL l).length ≤ 2048) : recB l = true := recB_iff.2 ⟨h, h2⟩
theorem fld_len (s : ByteArray) : (fldL s).length = (decL (s.size : Int)).length + 1 + s.size := by
  have : s.data.toList.length = s.size := Array.length_toList
  rw [fldL]
  simp only [List.length_append, List.length_cons]
  omega
theorem itoa_dec {n : Int} (h : 0 ≤ n) : (⟨(Lib.itoa n).toArray⟩ : ByteArray) = decT n := by rw [itoa_nat h]; rfl

/-- What putting a record gives. -/
def recX (l : List ByteArray) : ByteArray := if recB l = true then recT l else ⟨#[]⟩
def PutR (w : World) (l : List ByteArray) (e : Ending) (w' : World) : Prop := e = .returned (.tuple #[.string (recX l), .bool (recB l)]) ∧ Below w.heap.size w w'
theorem recX_no {l : List ByteArray} (h : recB l = false) : recX l = ⟨#[]⟩ := if_neg (by simp [h])
theorem recX_yes {l : List ByteArray} (h : recB l = true) : recX l = recT l := if_pos h
theorem RdT.strs {w : World} {A : Option Addr} {xs : List ByteArray} {k : Nat} (h : RdT encS 1 w A xs) (hk : k < xs.length) :
    ∃ b off s, A = some ⟨b, off, none⟩ ∧ b < w.heap.size ∧ xs[k]? = some s ∧ w.cell? ⟨b, off + k, none⟩ = some (.string s) := by
  obtain ⟨b, off, rfl, hb, hc⟩ := h (by omega)
  have he : xs[k]? = some xs[k] := List.getElem?_eq_getElem hk
  have c := hc k _ he 0 (by omega)
  simp only [Nat.mul_one, Nat.add_zero, encS] at c
  exact ⟨b, off, xs[k], rfl, hb, he, c⟩


end Go.Proofs.YtafadedacbjioaaGreatDoor

/- The program's NameOk returns 'nameB s' for every text s. -/
namespace Go.Proofs.YtafadedacbjioaaGreatDoor
open Go.RowKit
set_option linter.unusedVariables false

end Go.Proofs.YtafadedacbjioaaGreatDoor

/- EntriesOk: the reference's and the program's return one Bool for every list. -/
namespace Go.Proofs.YtafadedacbjioaaGreatDoor
open Go.RowKit
set_option linter.unusedVariables false

/-- Element k of a row of entries, with its cells. -/
theorem RdT.entry {w : World} {A : Option Addr} {es : List Ent} {k : Nat} (h : RdT encE 2 w A es) (hk : k < es.length) :
    ∃ b off nm id, A = some ⟨b, off, none⟩ ∧ b < w.heap.size ∧ es[k]? = some ⟨nm, id⟩ ∧ w.cell? ⟨b, off + k * 2, none⟩ = some (.string nm) ∧ w.cell? ⟨b, off + k * 2 + 1, none⟩ = some (.int .i64 id) := by
  obtain ⟨b, off, rfl, hb, hc⟩ := h (by omega)
  have he : es[k]? = some es[k] := List.getElem?_eq_getElem hk
  exact ⟨b, off, es[k].name, es[k].id, rfl, hb, he, hc k _ he 0 (by omega), hc k _ he 1 (by omega)⟩

/-- The row itself, once its address is known. -/
theorem RdT.row' {α : Type} {enc : α → Nat → Value} {sz : Nat} {w : World} {b off : Nat} {xs : List α} (h : RdT enc sz w (some ⟨b, off, none⟩) xs) (hn : 0 < xs.length) : RowAt enc sz w b off xs := by
  obtain ⟨b', off', e, hr⟩ := h hn
  cases e
  exact hr

end Go.Proofs.YtafadedacbjioaaGreatDoor

/- The text of entries: both texts' walks. -/
namespace Go.Proofs.YtafadedacbjioaaGreatDoor
open Go.RowKit Go.Sort
set_option maxRecDepth 100000
set_option linter.unusedVariables false
set_option linter.unusedSimpArgs false
attribute [local go_sem ↓] Go.wp_at_zero Go.wp_at_succ

theorem ents_step {es : List Ent} {k : Nat} {e : Ent} (h : es[k]? = some e) : entsL (es.take (k + 1)) = entsL (es.take k) ++ entL e := by
  rw [List.take_add_one, h, entsL_app]
  simp [entsL]
/-- The text so far, and what comes to it at an entry. -/
theorem ents_next {es : List Ent} {k : Nat} {nm : ByteArray} {n : Nat} (h : es[k]? = some ⟨nm, (n : Int)⟩) : ofL (entsL (es.take k)) ++ nm ++ ⟨#[61]⟩ ++ decT (n : Int) ++ ⟨#[59]⟩ = ofL (entsL (es.take (k + 1))) := by
  refine ofL_ext ?_
  rw [ofL_data, ents_step h]
  simp only [bytes_append, ofL_data, decT_data, entL]
  simp
theorem ents_take_len {es : List Ent} (hok : entriesOkB es = true) (k : Nat) : (entsL (es.take k)).length ≤ 96 := by
  obtain ⟨h1, h2⟩ := ent_ok hok
  have h3 := entsL_len (l := es.take k) (fun e he => h1 e (List.mem_of_mem_take he))
  have h4 : (es.take k).length ≤ 12 := by rw [List.length_take]; omega
  omega


end Go.Proofs.YtafadedacbjioaaGreatDoor

/- Entries read out of a text: both texts' walks. -/
namespace Go.Proofs.YtafadedacbjioaaGreatDoor
open Go.RowKit Go.Sort
set_option maxRecDepth 100000
set_option linter.unusedVariables false
set_option linter.unusedSimpArgs false
attribute [local go_sem ↓] Go.wp_at_zero Go.wp_at_succ

theorem oneEt : OneC encE := fun x j => by
  unfold encE
  split <;> rfl
/-! How a text of entries is cut. -/
theorem cutA_len (c : UInt8) : ∀ (s acc : List UInt8), (cutA c acc s).length ≤ s.length + 1 ∧ ∀ x ∈ cutA c acc s, x.length ≤ acc.length + s.length
  | [], acc => by simp [cutA]
  | b :: r, acc => by
    unfold cutA
    split
    · have h := cutA_len c r []
      refine ⟨by simp only [List.length_cons]; omega, fun x hx => ?_⟩
      rcases List.mem_cons.1 hx with rfl | hx
      · omega
      · have := h.2 x hx
        simp only [List.length_cons, List.length_nil] at this ⊢
        omega
    · have h := cutA_len c r (acc ++ [b])
      refine ⟨by simp only [List.length_cons]; omega, fun x hx => ?_⟩
      have := h.2 x hx
      simp only [List.length_append, List.length_cons, List.length_nil] at this ⊢
      omega
theorem cutB_len (c : UInt8) (s : ByteArray) : (cutB c s).length ≤ s.size + 1 ∧ ∀ x ∈ cutB c s, x.size ≤ s.size := by
  have h := cutA_len c s.data.toList []
  have hs : s.data.toList.length = s.size := Array.length_toList
  refine ⟨by rw [cutB, List.length_map]; unfold cutL; omega, fun x hx => ?_⟩
  rw [cutB, List.mem_map] at hx
  obtain ⟨y, hy, rfl⟩ := hx
  have := h.2 y hy
  rw [ofL_size]
  simp only [List.length_nil] at this
  omega
theorem ents_cut : ∀ {l : List Ent}, (∀ e ∈ l, nameB e.name = true ∧ 1 ≤ e.id ∧ e.id ≤ 15) → cutL 59 (entsL l) = l.map (fun (e : Ent) => e.name.data.toList ++ 61 :: decL e.id) ++ [[]]
  | [], _ => rfl
  | e :: r, h => by
    have h1 := h e (List.mem_cons_self ..)
    have f : (59 : UInt8) ∉ e.name.data.toList ++ 61 :: decL e.id := by
      simp only [List.mem_append, List.mem_cons, not_or]
      exact ⟨name_low h1.1 (by decide), by decide, decL_free (by decide)⟩
    have e1 : entsL (e :: r) = (e.name.data.toList ++ 61 :: decL e.id) ++ 59 :: entsL r := by simp [entsL, entL]
    rw [e1, cutL_hit 59 _ _ f, ents_cut (fun x hx => h x (List.mem_cons_of_mem _ hx))]
    simp
/-- The k-th piece of a text of entries. -/
theorem ents_piece {s : ByteArray} {m : List Ent} (hok : entriesOkB m = true) (he : entsL m = s.data.toList) :
    (cutB 59 s).length = m.length + 1 ∧ ∀ (k : Nat) (x : ByteArray), (cutB 59 s)[k]? = some x → k < m.length → ∃ e, m[k]? = some e ∧ cutB 61 x = [e.name, decT e.id] ∧ 1 ≤ e.id ∧ e.id ≤ 15 := by
  have h1 := (ent_ok hok).1
  have h2 : cutB 59 s = (m.map (fun (e : Ent) => e.name.data.toList ++ 61 :: decL e.id) ++ [[]]).map ofL := by rw [cutB, ← he, ents_cut h1]
  refine ⟨by rw [h2]; simp, fun k x hx hk => ?_⟩
  have hm := List.getElem?_eq_getElem hk
  have h3 := h1 _ (List.getElem_mem hk)
  refine ⟨m[k], hm, ?_, h3.2⟩
  rw [h2, List.getElem?_map, List.getElem?_append_left (by simpa using hk), List.getElem?_map, hm] at hx
  simp only [Option.map_some, Option.some.injEq] at hx
  rw [← hx, cutB, ofL_data, cutL_hit 61 _ _ (name_low h3.1 (by decide)), cutL_one 61 _ (decL_free (by decide))]
  simp only [List.map_cons, List.map_nil]
  rw [data_ofL]
  rfl
def SpecAt (s : ByteArray) (k : Nat) (out : List Ent) : Prop := ∀ m, entriesOkB m = true → entsL m = s.data.toList → out = m.take k
theorem specAt_step {s : ByteArray} {k : Nat} {out : List Ent} {x a b : ByteArray} (h : SpecAt s k out) (hx : (cutB 59 s)[k]? = some x) (hk : k + 1 < (cutB 59 s).length) (hc : cutB 61 x = [a, b]) : SpecAt s (k + 1) (out ++ [⟨a, numV b⟩]) := by
  intro m hok he
  obtain ⟨p1, p2⟩ := ents_piece hok he
  obtain ⟨e, e1, e2, e3, e4⟩ := p2 k x hx (by omega)
  rw [hc] at e2
  simp only [List.cons.injEq, and_true] at e2
  obtain ⟨rfl, rfl⟩ := e2
  have hn := numB_dec (s := decT e.id) (n := e.id) (by omega) (by omega) (decT_data _)
  rw [List.take_add_one, e1, h m hok he, hn.2]
  rfl
theorem specAt_bad {s : ByteArray} {k : Nat} {out : List Ent} {x : ByteArray} (hx : (cutB 59 s)[k]? = some x) (hk : k + 1 < (cutB 59 s).length) (hc : ¬ (cutB 61 x).length = 2) : EntG s [] false :=
  .inr ⟨rfl, rfl, fun m hok he => by
    obtain ⟨p1, p2⟩ := ents_piece hok he
    obtain ⟨e, _, e2, _, _⟩ := p2 k x hx (by omega)
    rw [e2] at hc
    exact hc rfl⟩
theorem specAt_end {s : ByteArray} {k : Nat} {out : List Ent} (h : SpecAt s k out) (hk : ¬ k + 1 < (cutB 59 s).length) :
    (entriesOkB out = false → EntG s [] false) ∧ (entriesOkB out = true → entsT out = s → EntG s out true) ∧ (entriesOkB out = true → entsT out ≠ s → EntG s [] false) := by
  have one : ∀ m, entriesOkB m = true → entsL m = s.data.toList → out = m := fun m hok he => by
    obtain ⟨p1, _⟩ := ents_piece hok he
    rw [h m hok he, List.take_of_length_le (by omega)]
  refine ⟨fun hb => .inr ⟨rfl, rfl, fun m hok he => ?_⟩, fun hb ht => .inl ⟨rfl, hb, ?_⟩, fun hb hn => .inr ⟨rfl, rfl, fun m hok he => hn ?_⟩⟩
  · rw [one m hok he, hok] at hb; cases hb
  · rw [← ht, entsT, ofL_data]
  · rw [one m hok he]
    exact ofL_ext (by rw [entsT, ofL_data, he])

/-- Rows that the call reads while it appends to another one. -/
theorem rd_grown {α : Type} {enc : α → Nat → Value} {sz : Nat} {W W' : World} {A : Option Addr} {xs : List α} {row : Option Nat} (h : RdT enc sz W A xs) (hg : W.grownBy W' row) (hne : ∀ a, A = some a → row ≠ some a.block) : RdT enc sz W' A xs :=
  h.keep hg.size (fun _ a ha hl => hg.block a.block hl (fun e => hne a ha e.symm))
/-- The row read lies apart from the row that grows. -/
def Off (W1 : World) (A : Option Addr) (x : Value) : Prop := ∀ a, A = some a → a.block < W1.heap.size ∧ x.ownBlock ≠ some a.block
theorem Off.next {W1 W : World} {A : Option Addr} {x x' : Value} (h : Off W1 A x) (hs : W1.heap.size ≤ W.heap.size) (ha : x'.ownBlock = x.ownBlock ∨ x'.ownBlock = some W.heap.size) : Off W1 A x' := fun a hA => by
  obtain ⟨h1, h2⟩ := h a hA
  refine ⟨h1, ?_⟩
  rcases ha with ha | ha
  · rw [ha]; exact h2
  · rw [ha]
    intro e
    simp only [Option.some.injEq] at e
    omega
/-! strings.Cut at one byte. -/
theorem index_hit (c : UInt8) : ∀ (p x : List UInt8), c ∉ p → Lib.index (p ++ c :: x) [c] = (p.length : Int)
  | [], x, _ => by unfold Lib.index; simp
  | b :: p, x, h => by
    simp only [List.mem_cons, not_or] at h
    have ih := index_hit c p x h.2
    have h0 : List.isPrefixOf [c] (b :: (p ++ c :: x)) = false := by simp [List.isPrefixOf, h.1]
    rw [List.cons_append]
    unfold Lib.index
    rw [h0, ih]
    have : (((p.length : Nat) : Int) == -1) = false := by rw [beq_eq_false_iff_ne]; omega
    simp [this]
theorem index_miss (c : UInt8) : ∀ (s : List UInt8), c ∉ s → Lib.index s [c] = -1
  | [], _ => by unfold Lib.index; simp
  | b :: s, h => by
    simp only [List.mem_cons, not_or] at h
    have ih := index_miss c s h.2
    have h0 : List.isPrefixOf [c] (b :: s) = false := by simp [List.isPrefixOf, h.1]
    unfold Lib.index
    rw [h0, ih]
    rfl
theorem cut1_hit {c : UInt8} {p x : List UInt8} (h : c ∉ p) : Lib.cut (p ++ c :: x) [c] = (p, x, true) := by
  unfold Lib.cut
  rw [index_hit c p x h, if_pos (by omega)]
  have e1 : ((p.length : Nat) : Int).toNat = p.length := by omega
  rw [e1]
  simp
theorem cut1_miss {c : UInt8} {s : List UInt8} (h : c ∉ s) : Lib.cut s [c] = (s, [], false) := by
  unfold Lib.cut
  rw [index_miss c s h, if_neg (by omega)]
/-- The three parts of a cut. -/
theorem cut1_cases (c : UInt8) (s : List UInt8) : (Lib.cut s [c] = (s, [], false) ∧ c ∉ s) ∨ ∃ p x, s = p ++ c :: x ∧ c ∉ p ∧ Lib.cut s [c] = (p, x, true) := by
  rcases first_at c s with h | ⟨p, x, rfl, h⟩
  · exact .inl ⟨cut1_miss h, h⟩
  · exact .inr ⟨p, x, rfl, h, cut1_hit h⟩
theorem entGet_good {s R : List UInt8} {l : List Ent} (h : EntAt' s l R) (h1 : (Lib.cut R [59]).2.2 = true) (h2 : (Lib.cut (Lib.cut R [59]).1 [61]).2.2 = true) (h3 : numB (ofL (Lib.cut (Lib.cut R [59]).1 [61]).2.1) = true) :
    EntAt' s (l ++ [⟨ofL (Lib.cut (Lib.cut R [59]).1 [61]).1, numV (ofL (Lib.cut (Lib.cut R [59]).1 [61]).2.1)⟩]) (Lib.cut R [59]).2.1 ∧ (Lib.cut R [59]).2.1.length < R.length := by
  rcases cut1_cases 59 R with ⟨e, _⟩ | ⟨p, x, hR, hp, e⟩
  · rw [e] at h1; cases h1
  · rw [e] at h2 h3 ⊢
    dsimp only at h2 h3 ⊢
    rcases cut1_cases 61 p with ⟨e2, _⟩ | ⟨a, b, hpe, ha, e2⟩
    · rw [e2] at h2; cases h2
    · rw [e2] at h3 ⊢
      dsimp only at h3 ⊢
      have f : (59 : UInt8) ∉ a := fun hm => hp (by rw [hpe]; exact List.mem_append_left _ hm)
      refine ⟨entAt_next (name := ofL a) (num := ofL b) h ?_ (by rw [ofL_data]; exact ha) (by rw [ofL_data]; exact f) h3, ?_⟩
      · rw [ofL_data, ofL_data, hR, hpe]; simp
      · rw [hR]; simp only [List.length_append, List.length_cons]; omega
theorem entGet_bad {s : ByteArray} {R : List UInt8} {l : List Ent} (h : EntAt' s.data.toList l R) (hR : R ≠ []) (hb : (Lib.cut R [59]).2.2 = false ∨ (Lib.cut (Lib.cut R [59]).1 [61]).2.2 = false ∨ numB (ofL (Lib.cut (Lib.cut R [59]).1 [61]).2.1) = false ∨ l.length = 12) : EntG s [] false :=
  .inr ⟨rfl, rfl, fun m hm he => by
    obtain ⟨e, m', e1, e2, e3, e4, e5, e6⟩ := ent_begin h hR hm he
    have f : (59 : UInt8) ∉ e.name.data.toList ++ 61 :: decL e.id := by
      simp only [List.mem_append, List.mem_cons, not_or]
      exact ⟨name_low e4 (by decide), by decide, decL_free (by decide)⟩
    have g1 : Lib.cut R [59] = (e.name.data.toList ++ 61 :: decL e.id, entsL m', true) := by
      rw [e1, ← cut1_hit (x := entsL m') f]
      simp
    rw [g1] at hb
    dsimp only at hb
    rw [cut1_hit (name_low e4 (by decide))] at hb
    dsimp only at hb
    have hn := (numB_dec (s := ofL (decL e.id)) (n := e.id) (by omega) (by omega) (ofL_data _)).1
    rw [hn] at hb
    simp only [Bool.true_eq_false, false_or] at hb
    omega⟩
theorem ents_name_len {l : List Ent} : ∀ e ∈ l, e.name.size ≤ (entsL l).length := by
  induction l with
  | nil => intro e he; cases he
  | cons x r ih =>
    intro e he
    rw [entsL, List.length_append]
    rcases List.mem_cons.1 he with rfl | he
    · have : e.name.data.toList.length = e.name.size := Array.length_toList
      unfold entL
      simp only [List.length_append, List.length_cons]
      omega
    · have := ih e he
      omega
def strLen : Value → Nat
  | .string s => s.size
  | _ => 0
def CutAt (w : World) : Prop := ∃ m : Int, w.cell? ⟨0, 0, none⟩ = some (.int .i64 m)
theorem CutAt.below {w w' : World} (h : CutAt w) (hb : Below w.heap.size w w') : CutAt w' := by
  obtain ⟨m, h1⟩ := h
  exact ⟨m, ((bcell hb).1 _ 0 (Lib.lt_of_cell h1)).trans h1⟩
end Go.Proofs.YtafadedacbjioaaGreatDoor

/- Records read out of a text: both texts' walks. -/
namespace Go.Proofs.YtafadedacbjioaaGreatDoor
open Go.RowKit Go.Sort
set_option maxRecDepth 100000
set_option linter.unusedVariables false
set_option linter.unusedSimpArgs false
attribute [local go_sem ↓] Go.wp_at_zero Go.wp_at_succ

theorem ext_take (s : ByteArray) (n : Nat) : (s.extract 0 n).data.toList = s.data.toList.take n := by
  rw [ByteArray.data_extract]; simp
theorem ext_drop (s : ByteArray) (n : Nat) : (s.extract n s.size).data.toList = s.data.toList.drop n := by
  rw [ByteArray.data_extract]
  simp only [Array.toList_extract]
  have : s.data.toList.length = s.size := Array.length_toList
  rw [List.extract_eq_take_drop]
  rw [List.take_of_length_le]
  simp
theorem recGet_good {s R : List UInt8} {l : List ByteArray} {tail : ByteArray} (h : RecAt s l R) (h1 : (Lib.cut R [58]).2.2 = true) (ht : (Lib.cut R [58]).2.1 = tail.data.toList) {num : ByteArray} (hn : (Lib.cut R [58]).1 = num.data.toList) (h2 : numB num = true) {n : Nat} (hv : numV num = (n : Int)) (h3 : n ≤ tail.size) :
    RecAt s (l ++ [tail.extract 0 n]) (tail.extract n tail.size).data.toList ∧ (tail.extract n tail.size).size < R.length := by
  rcases cut1_cases 58 R with ⟨e, _⟩ | ⟨p, x, hR, hp, e⟩
  · rw [e] at h1; cases h1
  · rw [e] at ht hn
    dsimp only at ht hn
    have hts : tail.data.toList.length = tail.size := Array.length_toList
    have hd := numB_data h2
    have hez : (tail.extract 0 n).size = n := by rw [ByteArray.size_extract]; omega
    refine ⟨recAt_next (e := tail.extract 0 n) h ?_, ?_⟩
    · rw [hR, hn, hd, hv, hez, ht, ext_take, ext_drop, List.take_append_drop]
    · rw [ByteArray.size_extract, hR]
      simp only [List.length_append, List.length_cons, ht, hts]
      omega
theorem recGet_bad {s : ByteArray} {R : List UInt8} {l : List ByteArray} {num tail : ByteArray} (h : RecAt s.data.toList l R) (hR : R ≠ []) (hn : (Lib.cut R [58]).1 = num.data.toList) (ht : (Lib.cut R [58]).2.1 = tail.data.toList)
    (hb : (Lib.cut R [58]).2.2 = false ∨ numB num = false ∨ (tail.size : Int) < numV num ∨ l.length = 60) : RecG s [] false :=
  .inr ⟨rfl, rfl, fun m hm he => by
    obtain ⟨e, m', e1, e2, e3, e4⟩ := rec_begin h hR hm he
    have g1 : Lib.cut R [58] = (decL (e.size : Int), e.data.toList ++ recL m', true) := by
      rw [e1, ← cut1_hit (c := 58) (x := e.data.toList ++ recL m') (decL_free (by decide))]
    rw [g1] at hb hn ht
    dsimp only at hb hn ht
    have hnn := numB_dec (s := num) (n := (e.size : Int)) (by omega) (by omega) hn.symm
    rw [hnn.1, hnn.2] at hb
    have hts : tail.data.toList.length = tail.size := Array.length_toList
    have hes : e.data.toList.length = e.size := Array.length_toList
    have := congrArg List.length ht
    rw [List.length_append] at this
    simp only [Bool.true_eq_false, false_or] at hb
    omega⟩

/-! The reference: at a place of the text. -/
theorem lead_stop {d x : List UInt8} {c : UInt8} (hd : ∀ b ∈ d, digB b = true) (hl : d.length ≤ 9) (hc : digB c = false) : leadL (d ++ c :: x) = d := by
  have h := leadL_take (l := d ++ c :: x) (k := d.length) hl (by simp) (by simpa using hd) (.inr (.inr ⟨c, by simp, hc⟩))
  rw [h]
  simp
theorem lead_pre {R : List UInt8} {k : Nat} (hk : k = (leadL R).length) : R = leadL R ++ R.drop k := by
  obtain ⟨t, ht⟩ := leadL_pre R
  conv => lhs; rw [← ht]
  have : R.drop k = t := by
    conv => lhs; rw [← ht]
    rw [hk]; simp
  rw [this]
theorem specRec_good {s R : List UInt8} {l : List ByteArray} (h : RecAt s l R) (q : ByteArray) (hq : q.data.toList = R) {n k : Nat} (hn : l1N q = (n : Int)) (hk : l1K q = k) (h1 : ¬ k = 0) (h2 : R[k]? = some 58) (e : ByteArray) (he : e.data.toList = (R.drop (k + 1)).take n) (h3 : n ≤ R.length - (k + 1)) :
    RecAt s (l ++ [e]) (R.drop (k + 1 + n)) := by
  have hz : zeroB R = false := by
    cases hz : zeroB R
    · rfl
    · have hz' := hz
      simp only [zeroB, Bool.and_eq_true, decide_eq_true_eq] at hz'
      rw [l1K, hq, hz] at hk
      simp only [if_true] at hk
      subst hk
      have e1 := lead_pre (R := R) rfl
      rw [e1, List.getElem?_append_left hz'.1, List.getElem?_eq_getElem hz'.1] at h2
      have := leadL_dig R _ (List.getElem_mem hz'.1)
      rw [Option.some.inj h2] at this
      cases this
  rw [l1N, hq, hz] at hn
  rw [l1K, hq, hz] at hk
  simp only [Bool.false_eq_true, if_false] at hn hk
  have e1 := lead_pre (R := R) hk.symm
  have hkl : k < R.length := by
    rcases Nat.lt_or_ge k R.length with hl | hl
    · exact hl
    · rw [List.getElem?_eq_none hl] at h2; cases h2
  have e2 : R.drop k = 58 :: R.drop (k + 1) := by
    rw [List.drop_eq_getElem_cons hkl]
    rw [List.getElem?_eq_getElem hkl] at h2
    rw [Option.some.inj h2]
  have hok : numOk (leadL R) = true := by
    refine numOk_iff.2 ⟨leadL_dig R, ⟨by omega, (leadL_len R).1⟩, ?_⟩
    simp only [zeroB, Bool.and_eq_false_imp, decide_eq_true_eq, beq_eq_false_iff_ne] at hz
    rcases Nat.lt_or_ge 1 (leadL R).length with hl | hl
    · refine .inr (fun hc => hz hl ?_)
      rw [e1]
      cases hL : leadL R with
      | nil => rw [hL] at hl; simp at hl
      | cons b r => rw [hL] at hc; simpa using hc
    · exact .inl (by omega)
  have hdec := dec_of_numOk hok
  have hez : (e.size : Int) = (n : Int) := by
    have h4 : e.data.toList.length = e.size := Array.length_toList
    rw [he, List.length_take, List.length_drop] at h4
    omega
  have hnn : valL (leadL R) = n := by omega
  refine recAt_next h ?_
  rw [hez, he, decL, Int.toNat_natCast, ← hnn, hdec]
  conv => lhs; rw [e1, e2]
  have e6 : R.drop (k + 1 + n) = (R.drop (k + 1)).drop n := by rw [List.drop_drop]
  rw [hnn, e6, List.take_append_drop]
theorem specRec_bad {s : ByteArray} {R : List UInt8} {l : List ByteArray} (h : RecAt s.data.toList l R) (hR : R ≠ []) (q : ByteArray) (hq : q.data.toList = R) (hb : l1K q = 0 ∨ R.length ≤ l1K q ∨ R[l1K q]? ≠ some 58 ∨ ((R.length : Int) - l1K q - 1 < l1N q)) : RecG s [] false :=
  .inr ⟨rfl, rfl, fun m hm he => by
    obtain ⟨e, m', e1, e2, e3, e4⟩ := rec_begin h hR hm he
    have hlen := decL_len (n := (e.size : Int)) (by omega) (by omega)
    have hld : leadL R = decL (e.size : Int) := by
      rw [e1]
      exact lead_stop (dec_digits _) hlen.2 (by decide)
    have hok := numOk_iff.1 (numOk_dec (u := (e.size : Int).toNat) (by omega))
    have hz : zeroB R = false := by
      cases hz : zeroB R
      · rfl
      · simp only [zeroB, Bool.and_eq_true, decide_eq_true_eq, beq_iff_eq] at hz
        obtain ⟨z1, z2⟩ := hz
        rw [hld] at z1
        rcases hok.2.2 with o | o
        · rw [decL] at z1; omega
        · refine absurd ?_ o
          have e5 := lead_pre (R := R) rfl
          rw [hld] at e5
          rw [e5] at z2
          show (decL (e.size : Int)).head? = some 48
          cases hL : decL (e.size : Int) with
          | nil => rw [hL] at hlen; simp at hlen
          | cons b r => rw [hL] at z2; simpa using z2
    have hK : l1K q = (decL (e.size : Int)).length := by rw [l1K, hq, hz, hld]; rfl
    have hN : l1N q = (e.size : Int) := by
      rw [l1N, hq, hz, hld]
      show ((valL (Lib.decDigits (e.size : Int).toNat) : Nat) : Int) = _
      rw [dec_val]; omega
    have hes : e.data.toList.length = e.size := Array.length_toList
    have hRl : R.length = (decL (e.size : Int)).length + 1 + e.size + (recL m').length := by
      rw [e1]
      simp only [List.length_append, List.length_cons]
      omega
    have hc : R[(decL (e.size : Int)).length]? = some 58 := by rw [e1]; simp
    rw [hK, hN] at hb
    rcases hb with hb | hb | hb | hb
    · omega
    · omega
    · exact hb hc
    · omega⟩

/-- What reading a record gives. -/
def GetR (w : World) (s : ByteArray) (e : Ending) (w' : World) : Prop := ∃ (v : Value) (l : List ByteArray) (b : Bool), e = .returned (.tuple #[v, .bool b]) ∧ RecG s l b ∧ Own encS 1 9 w.heap.size w' v l ∧ Below w.heap.size w w'
theorem own_nilS (base : Nat) (w : World) : Own encS 1 9 base w (.slice none 0 0) ([] : List ByteArray) := ⟨by simp [cellsOf], .inl ⟨rfl, rfl⟩⟩
theorem rec_long_bad {s : ByteArray} (h : 2048 < s.size) : RecG s [] false :=
  .inr ⟨rfl, rfl, fun m hm he => by
    have h1 := (recB_iff.1 hm).2
    have h3 : s.data.toList.length = s.size := Array.length_toList
    rw [he] at h1
    omega⟩

theorem rec_mem_len {l : List ByteArray} : ∀ x ∈ l, x.size ≤ (recL l).length := by
  induction l with
  | nil => intro x hx; cases hx
  | cons y r ih =>
    intro x hx
    rw [recL, List.length_append]
    rcases List.mem_cons.1 hx with rfl | hx
    · have := fld_len x
      omega
    · have := ih x hx
      omega
theorem drop_len (s : ByteArray) (at_ : Nat) : (s.data.toList.drop at_).length = s.size - at_ := by
  rw [List.length_drop, Array.length_toList]
  rfl
theorem drop_byte_at (s : ByteArray) (at_ k j : Nat) (hj : at_ + k = j) (h : j < s.size) : (s.data.toList.drop at_)[k]? = some s[j] := by
  subst hj
  have h' : at_ + k < s.data.toList.length := by rw [Array.length_toList]; exact h
  rw [List.getElem?_drop, List.getElem?_eq_getElem h']
  rfl
theorem ext_mid (s : ByteArray) (a n : Nat) : (s.extract a (a + n)).data.toList = (s.data.toList.drop a).take n := by
  rw [ByteArray.data_extract]
  simp only [Array.toList_extract]
  rw [List.extract_eq_take_drop]
  congr 1
  omega

end Go.Proofs.YtafadedacbjioaaGreatDoor

/- Paths, the program's functions. -/
namespace Go.Proofs.YtafadedacbjioaaGreatDoor
open Go.RowKit
set_option linter.unusedVariables false
set_option linter.unusedSimpArgs false

/-- Whether a number is one of a place. -/
def PlacePost (w : World) (b : Bool) (e : Ending) (w' : World) : Prop := ∃ z : Int, e = .returned (.int .i64 z) ∧ decide (0 ≤ z) = b ∧ -1 ≤ z ∧ Below w.heap.size w w'

end Go.Proofs.YtafadedacbjioaaGreatDoor

/- Paths, the reference's functions, from the names on. -/
namespace Go.Proofs.YtafadedacbjioaaGreatDoor
open Go.RowKit
set_option linter.unusedVariables false
set_option linter.unusedSimpArgs false

/-- A slice that reads as a list of texts. -/
def RdS (w : World) (xs : List ByteArray) (e : Ending) (w' : World) : Prop := ∃ A cap, e = .returned (.slice A xs.length cap) ∧ xs.length ≤ cap ∧ cap ≤ 9223372036854775807 ∧ RdT encS 1 w' A xs ∧ Below w.heap.size w w'

theorem drop_one {l : List ByteArray} (h : l ≠ []) : (l.drop 1).length + 1 = l.length := by
  cases l with
  | nil => exact absurd rfl h
  | cons x r => simp

theorem ne_root {s : ByteArray} (h : s ≠ ⟨#[47]⟩) : (s.toList == [47]) = false := by
  cases he : (s.toList == [47])
  · rfl
  · rw [beq_iff_eq, Lib.toList_data] at he
    exact absurd (ofL_ext (by rw [he])) h

theorem pathB_head {s : ByteArray} (h : s ≠ ⟨#[47]⟩) (h0 : s.data.toList.head? ≠ some 47) : pathB s = false := by simp [pathB, h, h0]
theorem pathB_names {s : ByteArray} (h : s ≠ ⟨#[47]⟩) (h0 : s.data.toList.head? = some 47) : pathB s = pathOfB (namesOf s) := by simp [pathB, h, h0]
theorem head_atP {s : ByteArray} (h : 0 < s.size) : s.data.toList.head? = some s[0] := by
  have h' : 0 < s.data.toList.length := by rw [size_data]; exact h
  rw [List.head?_eq_getElem?, List.getElem?_eq_getElem h']
  rfl
theorem namesOf_len {s : ByteArray} : (namesOf s).length ≤ s.size + 1 := by
  unfold namesOf
  split
  · simp
  · have h := cutL_slash 47 s.data.toList
    have h2 : ∀ (xs : List (List UInt8)), xs.length ≤ (slash 47 xs).length := fun xs => by
      induction xs with
      | nil => simp
      | cons x r ih =>
        have e : slash 47 (x :: r) = 47 :: (x ++ slash 47 r) := by simp [slash]
        rw [e]
        simp only [List.length_cons, List.length_append]
        omega
    have h3 := h2 (cutL 47 s.data.toList)
    rw [h] at h3
    simp only [List.length_cons, size_data] at h3
    rw [List.length_drop, cutB, List.length_map]
    omega
theorem namesOf_each {s : ByteArray} : ∀ x ∈ namesOf s, x.size ≤ s.size + 1 := by
  unfold namesOf
  split
  · intro x hx; simp at hx
  · intro x hx
    have hx := List.mem_of_mem_drop hx
    obtain ⟨y, hy, rfl⟩ := List.mem_map.1 hx
    have h := cutL_slash 47 s.data.toList
    have h2 : ∀ (xs : List (List UInt8)), y ∈ xs → y.length ≤ (slash 47 xs).length := fun xs => by
      induction xs with
      | nil => intro h; cases h
      | cons x r ih =>
        intro h
        have e : slash 47 (x :: r) = 47 :: (x ++ slash 47 r) := by simp [slash]
        rw [e]
        simp only [List.length_cons, List.length_append]
        rcases List.mem_cons.1 h with rfl | h
        · omega
        · have := ih h; omega
    have h3 := h2 _ hy
    rw [h] at h3
    rw [ofL_size]
    simp only [List.length_cons, size_data] at h3
    omega

/-- Names and whether there are. -/
def NamesPost (w : World) (xs : List ByteArray) (b : Bool) (e : Ending) (w' : World) : Prop := ∃ v, e = .returned (.tuple #[v, .bool b]) ∧ Own encS 1 9 w.heap.size w' v xs ∧ Below w.heap.size w w'

end Go.Proofs.YtafadedacbjioaaGreatDoor

/- Paths, the reference's functions: the last name, the folder, joining, being under. -/
namespace Go.Proofs.YtafadedacbjioaaGreatDoor
open Go.RowKit
set_option linter.unusedVariables false
set_option linter.unusedSimpArgs false

/-- A row of texts of the call's own: nothing, or a block of it. -/
theorem Own.two {base : Nat} {w : World} {v : Value} {xs : List ByteArray} (h : Own encS 1 9 base w v xs) :
    (xs = [] ∧ ∃ A c, v = .slice A 0 c ∧ c ≤ 9223372036854775807) ∨ (xs ≠ [] ∧ ∃ g cap, v = .slice (some ⟨g, 0, none⟩) xs.length cap ∧ xs.length ≤ cap ∧ cap ≤ 9223372036854775807 ∧ RdT encS 1 w (some ⟨g, 0, none⟩) xs ∧ base ≤ g ∧ g < w.heap.size) := by
  obtain ⟨A, cap, rfl, h1, h2, hf, h3⟩ := h.form
  by_cases hx : xs = []
  · subst hx
    exact .inl ⟨rfl, A, cap, rfl, h2⟩
  · have hn : 0 < xs.length := List.length_pos_iff.2 hx
    rcases h.2 with ⟨hv, h0⟩ | ⟨g, cap', cur, hv, _⟩
    · omega
    · cases hv
      obtain ⟨a, b⟩ := hf _ rfl
      exact .inr ⟨hx, g, cap, rfl, h1, h2, h3, a, b⟩

theorem sub_one_nat (m : Nat) : ((m + 1 : Nat) : Int) - 1 = (m : Int) := by omega

theorem join_yes {s n : ByteArray} (h : pathB s = true) : joinB s n = pathOfB (namesT s ++ [n]) ∧ joinT s n = pathOfT (namesT s ++ [n]) := by
  have : joinB s n = pathOfB (namesT s ++ [n]) := by simp [joinB, h]
  exact ⟨this, by rw [joinT, this]; rfl⟩
theorem join_no {s n : ByteArray} (h : pathB s = false) : joinB s n = false ∧ joinT s n = ⟨#[]⟩ := by
  have : joinB s n = false := by simp [joinB, h]
  exact ⟨this, by rw [joinT, this]; rfl⟩

theorem under_eq {s t : ByteArray} (hs : pathB s = true) (ht : pathB t = true) (h : (namesT t).length ≤ (namesT s).length) : ((pathT ((namesT s).take (namesT t).length)).toList == (pathT (namesT t)).toList) = underB s t := by
  have o1 := all_nameB (namesT_ok hs)
  have o2 := all_nameB (namesT_ok ht)
  have e : underB s t = decide ((namesT s).take (namesT t).length = namesT t) := by simp [underB, hs, ht, h]
  rw [e]
  by_cases he : (namesT s).take (namesT t).length = namesT t
  · rw [he]
    simp
  · have : ¬ (pathT ((namesT s).take (namesT t).length)).toList = (pathT (namesT t)).toList := fun h' => he (by
      rw [Lib.toList_data, Lib.toList_data] at h'
      have h2 := ofL_ext h'
      have h3 := names_pathT (xs := (namesT s).take (namesT t).length) (fun x hx => o1.2 x (List.mem_of_mem_take hx))
      have h4 := names_pathT o2.2
      rw [← h3, h2, h4])
    rw [decide_eq_false he]
    simpa using this
theorem under_no {s t : ByteArray} (h : pathB s = false ∨ pathB t = false ∨ ¬ (namesT t).length ≤ (namesT s).length) : underB s t = false := by
  rcases h with h | h | h <;> simp [underB, h]

end Go.Proofs.YtafadedacbjioaaGreatDoor

/- Paths, the program's functions, from the names on. -/
namespace Go.Proofs.YtafadedacbjioaaGreatDoor
open Go.RowKit
set_option linter.unusedVariables false
set_option linter.unusedSimpArgs false

/-- The library's own number, whatever it is. -/
def MaxAt (w : World) : Prop := ∃ m : Int, w.cell? ⟨0, 0, none⟩ = some (.int .i64 m)
theorem MaxAt.below {w w' : World} (h : MaxAt w) (hb : Below w.heap.size w w') : MaxAt w' := by
  obtain ⟨m, hm⟩ := h
  refine ⟨m, ?_⟩
  rw [hb.cell (p := ⟨0, 0, none⟩) (World.block_lt_of_cell? w _ hm)]
  exact hm

theorem own_split {base : Nat} {w : World} (xs : List ByteArray) (hb : base ≤ w.heap.size) (hn : xs.length ≤ maxLen) : Own encS 1 9 base (w.alloc (.cells (xs.map Value.string).toArray 9)) (.slice (some ⟨w.heap.size, 0, none⟩) xs.length xs.length) xs := by
  have e : cellsOf encS 1 xs = xs.map Value.string := by
    induction xs with
    | nil => rfl
    | cons x r ih =>
      have := ih (by simp at hn; omega)
      simp [cellsOf, this, encS]
  refine ⟨by rw [cellsOf_length], .inr ⟨w.heap.size, xs.length, (xs.map Value.string).toArray, rfl, hb, heap_alloc_new w _, Nat.le_refl _, hn, by simp, ?_⟩⟩
  rw [e, Nat.mul_one]
  simp only [List.toList_toArray]
  exact List.take_of_length_le (by simp)

theorem cut_no {s : ByteArray} (h : s.data.toList.head? ≠ some 47) : Lib.hasPrefix s.data.toList [47] = false := by
  unfold Lib.hasPrefix
  cases hs : s.data.toList with
  | nil => rfl
  | cons b r =>
    rw [hs] at h
    have hb : ¬ b = 47 := by simpa using h
    have : ¬ (47 : UInt8) = b := fun e => hb e.symm
    simp [List.isPrefixOf, this]
theorem cut_yes {s : ByteArray} (h : s.data.toList.head? = some 47) : Lib.hasPrefix s.data.toList [47] = true ∧ ∃ r, s.data.toList = 47 :: r ∧ Lib.trimPrefix s.data.toList [47] = r := by
  cases hs : s.data.toList with
  | nil => rw [hs] at h; cases h
  | cons b r =>
    rw [hs] at h
    simp at h
    subst h
    have e : Lib.hasPrefix (47 :: r) [47] = true := by simp [Lib.hasPrefix, List.isPrefixOf]
    exact ⟨e, r, rfl, by rw [Lib.trimPrefix, if_pos e]; rfl⟩

end Go.Proofs.YtafadedacbjioaaGreatDoor

/- The pointer that a text is the text of: both texts' walks. -/
namespace Go.Proofs.YtafadedacbjioaaGreatDoor
open Go.RowKit Go.Sort
set_option maxRecDepth 100000
set_option linter.unusedVariables false
set_option linter.unusedSimpArgs false

theorem below_set5P {w W : World} (h : Below w.heap.size w W) {b : Nat} (hb : w.heap.size ≤ b) (v0 v1 v2 v3 v4 : Value) : Below w.heap.size w (((((W.setCell ⟨b, 0, none⟩ v0).setCell ⟨b, 1, none⟩ v1).setCell ⟨b, 2, none⟩ v2).setCell ⟨b, 3, none⟩ v3).setCell ⟨b, 4, none⟩ v4) :=
  below_set (below_set (below_set (below_set (below_set h (p := ⟨b, 0, none⟩) hb v0) (p := ⟨b, 1, none⟩) hb v1) (p := ⟨b, 2, none⟩) hb v2) (p := ⟨b, 3, none⟩) hb v3) (p := ⟨b, 4, none⟩) hb v4
theorem ne_text {s t : ByteArray} (h : ¬ s = t) : (s.toList == t.toList) = false := by
  cases he : (s.toList == t.toList)
  · rfl
  · rw [beq_iff_eq, Lib.toList_data, Lib.toList_data] at he
    exact absurd (ofL_ext he) h
theorem ne_dash {s : ByteArray} (h : ¬ s = ⟨#[45]⟩) : (s.toList == [45]) = false := by
  cases he : (s.toList == [45])
  · rfl
  · rw [beq_iff_eq, Lib.toList_data] at he
    exact absurd (ofL_ext (by rw [he])) h
theorem five_ofP {l : List ByteArray} (h : l.length = 5) : ∃ a b c d e, l = [a, b, c, d, e] := by
  match l, h with
  | [a, b, c, d, e], _ => exact ⟨a, b, c, d, e, rfl⟩
def GetP (w : World) (s : ByteArray) (e : Ending) (w' : World) : Prop := ∃ (p : Pt) (b : Bool), e = .returned (.tuple #[p.v, .bool b]) ∧ PtrG s p b ∧ Below w.heap.size w w'
def zero5 : Array Value := #[.int .i64 0, .int .i64 0, .int .i64 0, .int .i64 0, .int .i64 0]

theorem ptrT_dataG {p : Pt} (h : ptrB p = true) : (ptrT p).data.toList = ptrL p := by rw [ptrT, if_pos h, ofL_data]
theorem ptrG_put5 {s : ByteArray} (hs : s ≠ ⟨#[45]⟩) {a b c d e : ByteArray} (h : cutB 46 s = [a, b, c, d, e]) (ha : numB a = true) (hb : numB b = true) (hc : numB c = true) (hd : numB d = true) (he : numB e = true) :
    (ptrT ⟨numV a, numV b, numV c, numV d, numV e⟩ = s → PtrG s ⟨numV a, numV b, numV c, numV d, numV e⟩ true) ∧ (¬ ptrT ⟨numV a, numV b, numV c, numV d, numV e⟩ = s → PtrG s hole false) := by
  obtain ⟨h1, h2⟩ := ptrG_five hs h ha hb hc hd he
  constructor
  · intro hT
    cases hp : ptrB ⟨numV a, numV b, numV c, numV d, numV e⟩
    · rw [ptrT, if_neg (by simp [hp])] at hT
      rw [← hT] at h
      have h5 : (cutB 46 ⟨#[]⟩).length = 5 := by rw [h]; rfl
      exact absurd h5 (by decide)
    · exact .inl ⟨rfl, hp, by rw [← hT, ptrT_dataG hp]⟩
  · intro hT
    refine h2 fun hh => hT ?_
    rcases h1 hh with ⟨_, h3, h4⟩ | ⟨h3, _⟩
    · exact ofL_ext (by rw [ptrT_dataG h3, h4])
    · cases h3
/-- The numbers that were read so far, in the pointer's cells. -/
def pcell (xs : List ByteArray) (k j : Nat) : Value := .int .i64 (if j < k then numV (xs.getD j ⟨#[]⟩) else 0)
def p5 (xs : List ByteArray) (k : Nat) : Array Value := #[pcell xs k 0, pcell xs k 1, pcell xs k 2, pcell xs k 3, pcell xs k 4]
theorem p5_put {xs : List ByteArray} {k : Nat} {t : ByteArray} (hk : k < 5) (ht : xs[k]? = some t) : (p5 xs k).setIfInBounds k (.int .i64 (numV t)) = p5 xs (k + 1) := by
  rcases (show k = 0 ∨ k = 1 ∨ k = 2 ∨ k = 3 ∨ k = 4 by omega) with rfl | rfl | rfl | rfl | rfl <;> simp [p5, pcell, List.getD_eq_getElem?_getD, ht]
theorem p5_at {xs : List ByteArray} {k : Nat} (hk : k < 5) : (p5 xs k)[k]? = some (.int .i64 0) := by
  rcases (show k = 0 ∨ k = 1 ∨ k = 2 ∨ k = 3 ∨ k = 4 by omega) with rfl | rfl | rfl | rfl | rfl <;> simp [p5, pcell]
theorem p5_zero (xs : List ByteArray) : p5 xs 0 = zero5 := by simp [p5, pcell, zero5]
def ptrs5 (b : Nat) : Array Value := #[.pointer (some ⟨b, 0, none⟩), .pointer (some ⟨b, 1, none⟩), .pointer (some ⟨b, 2, none⟩), .pointer (some ⟨b, 3, none⟩), .pointer (some ⟨b, 4, none⟩)]
theorem ptrs5_at {b k : Nat} (hk : k < 5) : (ptrs5 b)[k]? = some (.pointer (some ⟨b, k, none⟩)) := by
  rcases (show k = 0 ∨ k = 1 ∨ k = 2 ∨ k = 3 ∨ k = 4 by omega) with rfl | rfl | rfl | rfl | rfl <;> rfl
structure PGRel (w : World) (pp : Nat) (A : Option Addr) (xs : List ByteArray) (k : Nat) (wr : World) : Prop where
  res : BoxAt wr w.heap.size zero5 40
  p : BoxAt wr (w.heap.size + 1) (p5 xs k) 40
  parts : BoxAt wr pp (ptrs5 (w.heap.size + 1)) 122
  rd : RdT encS 1 wr A xs
  bel : Below w.heap.size w wr
  ok : ∀ j t, j < k → xs[j]? = some t → numB t = true
theorem PGRel.below {w wr w' : World} {pp k : Nat} {A : Option Addr} {xs : List ByteArray} (h : PGRel w pp A xs k wr) (hB : Below wr.heap.size wr w') : PGRel w pp A xs k w' :=
  ⟨h.res.below hB, h.p.below hB, h.parts.below hB, h.rd.below hB, below_below h.bel hB, h.ok⟩
theorem PGRel.next {w wr : World} {pp k : Nat} {A : Option Addr} {xs : List ByteArray} {t : ByteArray} (h : PGRel w pp A xs k wr) (hk : k < 5) (ht : xs[k]? = some t) (hn : numB t = true) (hpp : w.heap.size + 1 < pp) (hA : ∀ a, A = some a → w.heap.size + 1 < a.block) :
    PGRel w pp A xs (k + 1) (wr.setCell ⟨w.heap.size + 1, k, none⟩ (.int .i64 (numV t))) := by
  have hK : Kp [w.heap.size + 1] wr (wr.setCell ⟨w.heap.size + 1, k, none⟩ (.int .i64 (numV t))) := (Kp.refl _ wr).setCell (.inl (by simp)) _
  refine ⟨h.res.kp hK (by simp), ?_, h.parts.kp hK (by simp; omega), h.rd.kp hK (fun _ a ha => by have := hA a ha; simp; omega), below_set h.bel (by dsimp only; omega) _, fun j u hj hu => ?_⟩
  · have := box_putB h.p k (.int .i64 (numV t))
    rwa [p5_put hk ht] at this
  · rcases Nat.lt_or_ge j k with h' | h'
    · exact h.ok j u h' hu
    · obtain rfl : j = k := by omega
      rw [ht] at hu
      cases hu
      exact hn

theorem splitDot_any (w : World) (s : ByteArray) (hM : MaxAt w) (hs : s.size ≤ 1048576) : Calls Tryz.prog 93 #[.string s, .string ⟨#[46]⟩] w (SPost w (cutB 46 s)) := by
  obtain ⟨m, hm⟩ := hM
  have HS := Tryz.strings_Split s ⟨#[46]⟩ m w (by omega) hm (by decide)
  have hcnt : Lib.countB s ⟨#[46]⟩ + 1 = (cutB 46 s).length := by
    rw [← splitB_cut, Lib.splitB_all _ (by decide) 0 _ _ rfl]
  rw [splitB_cut, hcnt] at HS
  have hl := (cutB_len 46 s).1
  refine HS.mono ?_
  rintro e w' ⟨rfl, rfl⟩
  exact ⟨_, rfl, own_split (base := w.heap.size) (cutB 46 s) (Nat.le_refl _) (by unfold maxLen; omega), (Below.refl _ _).alloc (Nat.le_refl _) _⟩
set_option maxHeartbeats 4000000 in
theorem ptrGet_any (w : World) (s : ByteArray) (hM : MaxAt w) (hT : TenAt w) (hE : ErrAt w) (hs : s.size ≤ 1048576) : Calls Tryz.prog 94 #[.string s] w (GetP w s) := by
  have BX := Lib.hid (box_new w #[.int .i64 0, .int .i64 0, .int .i64 0, .int .i64 0, .int .i64 0] 40)
  have HBa := Lib.hid (below_alloc (Below.refl w.heap.size w) (.cells #[.int .i64 0, .int .i64 0, .int .i64 0, .int .i64 0, .int .i64 0] 40))
  by_cases hd : s = ⟨#[45]⟩
  · subst hd
    clear hM hT hE
    go_enter Tryz.func94, Tryz.ntmps94
    go_wp2_with fail
    refine bodyPost_ret (v := .tuple #[.agg #[.int .i64 0, .int .i64 0, .int .i64 0, .int .i64 0, .int .i64 0], .bool true]) (by simp [results, Tryz.results94, go_sem]) rfl ⟨hole, true, rfl, ptrG_dash, ?_⟩
    exact HBa.out
  have q0 := ne_dash hd
  have HD := Lib.hid hd
  have LB := Lib.hid (And.intro hM (And.intro hT hE))
  have HS := Lib.hid (fun W (hB : Below w.heap.size w W) => splitDot_any W s (hM.below hB) hs)
  have HX := Lib.hid (cutB_len 46 s)
  have HL := Lib.hid (ptrG_len hd)
  clear hM hT hE hd
  have hsz1 : (w.alloc (.cells #[.int .i64 0, .int .i64 0, .int .i64 0, .int .i64 0, .int .i64 0] 40)).heap.size = w.heap.size + 1 := World.size_alloc _ _
  have BXp := Lib.hid (box_new (w.alloc (.cells #[.int .i64 0, .int .i64 0, .int .i64 0, .int .i64 0, .int .i64 0] 40)) #[.int .i64 0, .int .i64 0, .int .i64 0, .int .i64 0, .int .i64 0] 40)
  rw [hsz1] at BXp
  have BX2 := Lib.hid (BX.out.alloc (.cells #[.int .i64 0, .int .i64 0, .int .i64 0, .int .i64 0, .int .i64 0] 40))
  have HB2 := Lib.hid (below_alloc HBa.out (.cells #[.int .i64 0, .int .i64 0, .int .i64 0, .int .i64 0, .int .i64 0] 40))
  clear BX HBa hsz1
  generalize hxs : cutB 46 s = xs at *
  have HXS := Lib.hid hxs
  clear hxs
  go_enter Tryz.func94, Tryz.ntmps94
  go_wp2_with fail
  refine Calls.mono (HS.out _ HB2.out) ?_
  rintro e w3 ⟨v3, rfl, own3, hB⟩
  have hsz2 : w.heap.size + 1 < w3.heap.size := by have := BXp.out.lt; have := hB.size; omega
  obtain ⟨A, c, rfl, hc, hcm, hA, hrd⟩ := own3.form
  have HA := Lib.hid (show ∀ a, A = some a → w.heap.size + 1 < a.block from fun a ha => by have := (hA a ha).1; have := BXp.out.lt; omega)
  have R3 := Lib.hid hrd
  have BX3 := Lib.hid (BX2.out.below hB)
  have BP3 := Lib.hid (BXp.out.below hB)
  have HB3 := Lib.hid (below_below HB2.out hB)
  clear hA hrd own3 hB BX2 BXp HB2 HS
  have HPA := Lib.hid (parts_any w3 (w.heap.size + 1) (by omega))
  go_wp2_with fail
  refine Calls.mono HPA.out ?_
  rintro e w4 ⟨rfl, hP, hB⟩
  have HR := Lib.hid (show PGRel w w3.heap.size A xs 0 w4 from ⟨BX3.out.below hB, by rw [p5_zero]; exact BP3.out.below hB, hP, R3.out.below hB, below_below HB3.out hB, fun j t hj => by omega⟩)
  clear hP hB BX3 BP3 R3 HB3 HPA
  by_cases h5 : xs.length = 5
  · have HFV := Lib.hid h5
    rw [h5] at hc
    have HSZ := Lib.hid (show ∀ x ∈ xs, x.size ≤ 9223372036854775807 from fun x hx => by have := HX.out.2 x hx; omega)
    clear HX HL
    have bx4 := HR.out.res.cell
    have bf4 := HR.out.res.froz
    have hl4 := HR.out.res.lt
    rw [h5]
    clear h5
    go_wp2_with fail
    clear bx4 bf4 hl4
    go_loopw [25] (fun y wr => ∃ k : Nat, k ≤ 5 ∧ y = .int .i64 k ∧ Hid (PGRel w w3.heap.size A xs k wr)) (fun y _ => 5 - (intOf y).toNat)
    case atStart => exact ⟨0, Nat.zero_le _, rfl, HR⟩
    case round =>
      clear HR
      obtain ⟨k, hk5, rfl, HG⟩ := hrel
      by_cases hlt : k < 5
      · obtain ⟨b, off, t, rfl, hb, ht, ct⟩ := HG.out.rd.strs (k := k) (by rw [HFV.out]; exact hlt)
        have HN := Lib.hid (numGet_any t wr (LB.out.2.1.below HG.out.bel) (LB.out.2.2.below HG.out.bel) (HSZ.out t (List.mem_of_getElem? ht)))
        have HE := Lib.hid (fun hn => ptrG_num HD.out (i := k) (t := t) (by rw [HXS.out]; exact ht) hn)
        have HNX := Lib.hid (fun wx (h : PGRel w w3.heap.size (some ⟨b, off, none⟩) xs k wx) hn => h.next hlt ht hn hsz2 HA.out)
        have k2 : IntKind.i64.wrap ((k : Int) + 1) = (k : Int) + 1 := IntWalk.i64_in _ (by omega)
        clear ht HFV HXS HSZ
        generalize numV t = V at *
        generalize numB t = B at *
        go_wp2_with fail
        refine Calls.mono HN.out ?_
        rintro e w5 ⟨rfl, hB⟩
        have HG5 := Lib.hid (HG.out.below hB)
        clear hB HG HN ct
        cases B
        · replace HE := Lib.hid (HE.out rfl)
          have bx5 := HG5.out.res.cell
          have bf5 := HG5.out.res.froz
          have hl5 := HG5.out.res.lt
          simp only [zero5] at bx5
          clear HNX
          go_wp2_with fail
          refine bodyPost_ret (v := .tuple #[.agg #[.int .i64 0, .int .i64 0, .int .i64 0, .int .i64 0, .int .i64 0], .bool false]) (by simp [results, Tryz.results94, go_sem, bx5, hl5]) rfl ⟨hole, false, rfl, HE.out, ?_⟩
          exact below_set5P HG5.out.bel (Nat.le_refl _) _ _ _ _ _
        · replace HNX := Lib.hid (fun wx h => HNX.out wx h rfl)
          clear HE
          have e1 : w5.cell? ⟨w3.heap.size, k, none⟩ = some (.pointer (some ⟨w.heap.size + 1, k, none⟩)) := (HG5.out.parts.cell k).trans (ptrs5_at hlt)
          have e2 : w5.cell? ⟨w.heap.size + 1, k, none⟩ = some (.int .i64 0) := (HG5.out.p.cell k).trans (p5_at hlt)
          have e3 : w5.frozen? ⟨w.heap.size + 1, k, none⟩ = false := HG5.out.p.froz k
          go_wp2_with fail
          exact ⟨⟨k + 1, by omega, rfl, Lib.hid (HNX.out _ HG5.out)⟩, by simp [intOf]; omega⟩
      · obtain rfl : k = 5 := by omega
        have HB5 := Lib.hid HG.out.bel
        obtain ⟨f0, f1, f2, f3, f4, rfl⟩ := five_ofP HFV.out
        have BP5 := Lib.hid (show BoxAt wr (w.heap.size + 1) #[.int .i64 (numV f0), .int .i64 (numV f1), .int .i64 (numV f2), .int .i64 (numV f3), .int .i64 (numV f4)] 40 from HG.out.p)
        have BX5 := Lib.hid HG.out.res
        have G2 := ptrG_put5 HD.out HXS.out (HG.out.ok 0 f0 (by omega) rfl) (HG.out.ok 1 f1 (by omega) rfl) (HG.out.ok 2 f2 (by omega) rfl) (HG.out.ok 3 f3 (by omega) rfl) (HG.out.ok 4 f4 (by omega) rfl)
        have G1 := Lib.hid G2.1
        replace G2 := Lib.hid G2.2
        have HPP := Lib.hid (ptrPut_any wr ⟨numV f0, numV f1, numV f2, numV f3, numV f4⟩ (LB.out.2.1.below HB5.out))
        unfold Pt.v at HPP
        dsimp only at HPP
        generalize ptrT ⟨numV f0, numV f1, numV f2, numV f3, numV f4⟩ = T at *
        generalize numV f0 = v0 at *
        generalize numV f1 = v1 at *
        generalize numV f2 = v2 at *
        generalize numV f3 = v3 at *
        generalize numV f4 = v4 at *
        clear HG HXS HSZ HFV
        have bp5 := BP5.out.cell
        have hl5 := BP5.out.lt
        go_wp2_with fail
        refine Calls.mono HPP.out ?_
        rintro e w6 ⟨rfl, hB⟩
        have HB6 := Lib.hid (below_below HB5.out hB)
        have BX6 := Lib.hid (BX5.out.below hB)
        have BP6 := Lib.hid (BP5.out.below hB)
        have bp6 := BP6.out.cell
        have hp6 := BP6.out.lt
        have bx6 := BX6.out.cell
        have bf6 := BX6.out.froz
        have hl6 := BX6.out.lt
        simp only [zero5] at bx6
        clear hB bp5 hl5 HB5 BX5 BP5 HPP
        by_cases hTs : T = s
        · have HE := Lib.hid (G1.out hTs)
          have hq : (T.toList == s.toList) = true := by rw [hTs]; simp
          clear hTs G1 G2
          go_wp2_with fail
          refine bodyPost_ret (v := .tuple #[.agg #[.int .i64 v0, .int .i64 v1, .int .i64 v2, .int .i64 v3, .int .i64 v4], .bool true]) (by simp [results, Tryz.results94, go_sem, bx6, hl6]) rfl ⟨⟨v0, v1, v2, v3, v4⟩, true, rfl, HE.out, ?_⟩
          exact below_set5P HB6.out (Nat.le_refl _) _ _ _ _ _
        · have HE := Lib.hid (G2.out hTs)
          have hq := ne_text hTs
          clear hTs G1 G2
          go_wp2_with fail
          refine bodyPost_ret (v := .tuple #[.agg #[.int .i64 0, .int .i64 0, .int .i64 0, .int .i64 0, .int .i64 0], .bool false]) (by simp [results, Tryz.results94, go_sem, bx6, hl6]) rfl ⟨hole, false, rfl, HE.out, ?_⟩
          exact below_set5P HB6.out (Nat.le_refl _) _ _ _ _ _
  · have HE := Lib.hid (HL.out h5)
    have h5' : ((xs.length : Int) != 5) = true := by simp; omega
    have bx4 := HR.out.res.cell
    have bf4 := HR.out.res.froz
    have hl4 := HR.out.res.lt
    have HB4 := Lib.hid HR.out.bel
    simp only [zero5] at bx4
    clear h5 HL HX HR
    go_wp2_with fail
    refine bodyPost_ret (v := .tuple #[.agg #[.int .i64 0, .int .i64 0, .int .i64 0, .int .i64 0, .int .i64 0], .bool false]) (by simp [results, Tryz.results94, go_sem, bx4, hl4]) rfl ⟨hole, false, rfl, HE.out, ?_⟩
    exact below_set5P HB4.out (Nat.le_refl _) _ _ _ _ _
theorem rd_oneNP (w : World) (n : Int) : RdT encN 1 (w.alloc (.cells #[.int .i64 n] 3)) (some ⟨w.heap.size, 0, none⟩) [n] := fun _ => ⟨w.heap.size, 0, rfl, by simp, fun i x hx j hj => by
  have : i = 0 := by
    rcases i with _ | i
    · rfl
    · simp at hx
  subst this
  simp at hx
  subst hx
  obtain rfl : j = 0 := by omega
  unfold World.cell?
  simp only [heap_alloc_new]
  simp [encN]⟩
theorem cell_allocdP {w : World} {b o : Nat} (h : b < w.heap.size) (x : Obj) : (w.alloc x).drew.cell? ⟨b, o, none⟩ = w.cell? ⟨b, o, none⟩ := World.cell?_of_block (w := w) (a := ⟨b, o, none⟩) (Below.heap_alloc _ _ _ h)
theorem own_nilN {base : Nat} {w : World} {v : Value} {xs ys : List Int} (h : Own encN 1 3 base w v xs) (e : xs = ys) : Own encN 1 3 base w v ys := e ▸ h
theorem own_allocN {base : Nat} {w : World} {v : Value} {xs : List Int} (h : Own encN 1 3 base w v xs) (o : Obj) : Own encN 1 3 base (w.alloc o) v xs := h.below ((Below.refl _ _).alloc (Nat.le_refl _) o)
def SGRel (w2 : World) (xs : List ByteArray) (k : Nat) (v : Value) (wr : World) : Prop :=
  Own encN 1 3 w2.heap.size wr v ((xs.take k).map numV) ∧ Below w2.heap.size w2 wr ∧ ∀ j t, j < k → xs[j]? = some t → numB t = true
set_option maxHeartbeats 4000000 in
theorem specPtrGet_any (w : World) (s : ByteArray) (hs : s.size ≤ 1048576) : Calls Tryz.prog 92 #[.string s] w (GetP w s) := by
  have BX := Lib.hid (box_new w #[.int .i64 0, .int .i64 0, .int .i64 0, .int .i64 0, .int .i64 0] 40)
  have HBa := Lib.hid (below_alloc (Below.refl w.heap.size w) (.cells #[.int .i64 0, .int .i64 0, .int .i64 0, .int .i64 0, .int .i64 0] 40))
  by_cases hd : s = ⟨#[45]⟩
  · subst hd
    go_enter Tryz.func92, Tryz.ntmps92
    go_wp2_with fail
    refine bodyPost_ret (v := .tuple #[.agg #[.int .i64 0, .int .i64 0, .int .i64 0, .int .i64 0, .int .i64 0], .bool true]) (by simp [results, Tryz.results92, go_sem]) rfl ⟨hole, true, rfl, ptrG_dash, ?_⟩
    exact HBa.out
  have q0 := ne_dash hd
  have HD := Lib.hid hd
  have HS := Lib.hid (fun W => (show Calls Tryz.prog 91 #[.string s, .int .u8 46] W (SPost W (cutB 46 s)) from l2Cut_any W s 46 hs))
  have HX := Lib.hid (cutB_len 46 s)
  have HL := Lib.hid (ptrG_len hd)
  clear hd
  generalize hxs : cutB 46 s = xs at *
  have HXS := Lib.hid hxs
  clear hxs
  go_enter Tryz.func92, Tryz.ntmps92
  go_wp2_with fail
  refine Calls.mono (HS.out _) ?_
  rintro e w2 ⟨v2, rfl, own2, hB⟩
  obtain ⟨A, c, rfl, hc, hcm, hA, hrd⟩ := own2.form
  have R2 := Lib.hid hrd
  have BX2 := Lib.hid (BX.out.below hB)
  have HB2 := Lib.hid (below_below HBa.out hB)
  clear hA hrd own2 hB BX HBa HS
  by_cases h5 : xs.length = 5
  · have HFV := Lib.hid h5
    have HSZ := Lib.hid (show ∀ x ∈ xs, x.size ≤ 9223372036854775807 from fun x hx => by have := HX.out.2 x hx; omega)
    rw [h5] at hc
    clear HX HL
    rw [h5]
    clear h5
    go_wp2_with fail
    go_loopw [5, 6] (fun v y wr => ∃ k : Nat, k ≤ 5 ∧ y = .int .i64 k ∧ Hid (SGRel w2 xs k v wr)) (fun v y _ => 5 - (intOf y).toNat)
    case atStart => exact ⟨0, Nat.zero_le _, rfl, Lib.hid ⟨Own.empty (Nat.le_refl _), (Below.refl _ _).alloc (Nat.le_refl _) _, fun j t hj => by omega⟩⟩
    case round =>
      obtain ⟨k, hk5, rfl, HG⟩ := hrel
      by_cases hlt : k < 5
      · obtain ⟨b, off, t, rfl, hb, ht, ct⟩ := (R2.out.below HG.out.2.1).strs (k := k) (by rw [HFV.out]; exact hlt)
        have HN := Lib.hid (specNumGet_any t wr (HSZ.out t (List.mem_of_getElem? ht)))
        have HE := Lib.hid (fun hn => ptrG_num HD.out (i := k) (t := t) (by rw [HXS.out]; exact ht) hn)
        have HOK := Lib.hid (fun (hn : numB t = true) => (show ∀ j u, j < k + 1 → xs[j]? = some u → numB u = true from fun j u hj hu => by
          rcases Nat.lt_or_ge j k with h' | h'
          · exact HG.out.2.2 j u h' hu
          · obtain rfl : j = k := by omega
            rw [ht] at hu
            cases hu
            exact hn))
        have k2 : IntKind.i64.wrap ((k : Int) + 1) = (k : Int) + 1 := IntWalk.i64_in _ (by omega)
        have hlk : ((xs.take k).map numV).length = k := by have := HFV.out; simp; omega
        have K1 := Lib.hid (And.intro (show (((xs.take k).map numV).length + 1) * 8 ≤ 140737488355328 by omega) (show ((xs.take k).map numV).length + 1 ≤ maxLen by unfold maxLen; omega))
        have HZ := Lib.hid (show (xs.take k).map numV ++ [numV t] = (xs.take (k + 1)).map numV by rw [List.take_add_one, ht]; simp)
        have HO := Lib.hid HG.out.1
        have HBr := Lib.hid HG.out.2.1
        have BXr := Lib.hid (BX2.out.below HBr.out)
        have HBw := Lib.hid (below_below HB2.out HBr.out)
        clear ht HFV HXS HSZ hlk HG R2 BX2
        cases hn : numB t
        · rw [hn] at HN
          have bx5 := BXr.out.cell
          have bf5 := BXr.out.froz
          have hl5 := BXr.out.lt
          go_wp2_with fail
          refine Calls.mono HN.out ?_
          rintro e w5 ⟨rfl, rfl⟩
          go_wp2_with fail
          refine bodyPost_ret (v := .tuple #[.agg #[.int .i64 0, .int .i64 0, .int .i64 0, .int .i64 0, .int .i64 0], .bool false]) (by simp [results, Tryz.results92, go_sem, bx5, hl5]) rfl ⟨hole, false, rfl, HE.out hn, ?_⟩
          exact below_set5P HBw.out (Nat.le_refl _) _ _ _ _ _
        · rw [hn] at HN
          replace HOK := Lib.hid (HOK.out hn)
          clear hn HE
          go_wp2_with fail
          refine Calls.mono HN.out ?_
          rintro e w5 ⟨rfl, rfl⟩
          go_wp2_with (at_builtin; refine wpList_app (ys := ([numV t] : List Int)) elN rfl _ _ rfl (by rfl) (own_allocN HO.out _) (by rfl) rfl (rd_oneNP _ _) oneN K1.out.1 K1.out.2 (below_alloc HBr.out _).size ?_; intro v1 w4 ownv1 grv1 atv1)
          exact ⟨⟨k + 1, by omega, by go_num, Lib.hid ⟨by rw [← HZ.out]; exact ownv1, below_grown (below_alloc HBr.out _) (own_allocN HO.out _) grv1, HOK.out⟩⟩, by simp [intOf]; omega⟩
      · obtain rfl : k = 5 := by omega
        obtain ⟨f0, f1, f2, f3, f4, rfl⟩ := five_ofP HFV.out
        have HBr := Lib.hid HG.out.2.1
        have own5 : Own encN 1 3 w2.heap.size wr u5 [numV f0, numV f1, numV f2, numV f3, numV f4] := HG.out.1
        have G2 := ptrG_five HD.out HXS.out (HG.out.2.2 0 f0 (by omega) rfl) (HG.out.2.2 1 f1 (by omega) rfl) (HG.out.2.2 2 f2 (by omega) rfl) (HG.out.2.2 3 f3 (by omega) rfl) (HG.out.2.2 4 f4 (by omega) rfl)
        have G1 := Lib.hid G2.1
        replace G2 := Lib.hid G2.2
        have HPO := Lib.hid (fun W => specPtrOk_any ⟨numV f0, numV f1, numV f2, numV f3, numV f4⟩ W)
        have HPH := Lib.hid (fun W => specPtrHole_any ⟨numV f0, numV f1, numV f2, numV f3, numV f4⟩ W)
        unfold Pt.v at HPO HPH
        dsimp only at HPO HPH
        generalize ptrB ⟨numV f0, numV f1, numV f2, numV f3, numV f4⟩ = PB at *
        generalize holeB ⟨numV f0, numV f1, numV f2, numV f3, numV f4⟩ = PH at *
        generalize numV f0 = v0 at *
        generalize numV f1 = v1 at *
        generalize numV f2 = v2 at *
        generalize numV f3 = v3 at *
        generalize numV f4 = v4 at *
        have BXr := Lib.hid (BX2.out.below HBr.out)
        have HBw := Lib.hid (below_below HB2.out HBr.out)
        clear HG HXS HSZ HFV R2 BX2
        obtain ⟨A5, c5, rfl, hc5, _, _, rd5⟩ := own5.form
        obtain ⟨b5, o5, rfl, hb5, hcs⟩ := rd5 (by simp)
        have hcc : 5 ≤ c5 := hc5
        have d0 : wr.cell? ⟨b5, o5, none⟩ = some (.int .i64 v0) := hcs 0 v0 rfl 0 (by omega)
        have d1 : wr.cell? ⟨b5, o5 + 1, none⟩ = some (.int .i64 v1) := hcs 1 v1 rfl 0 (by omega)
        have d2 : wr.cell? ⟨b5, o5 + 2, none⟩ = some (.int .i64 v2) := hcs 2 v2 rfl 0 (by omega)
        have d3 : wr.cell? ⟨b5, o5 + 3, none⟩ = some (.int .i64 v3) := hcs 3 v3 rfl 0 (by omega)
        have d4 : wr.cell? ⟨b5, o5 + 4, none⟩ = some (.int .i64 v4) := hcs 4 v4 rfl 0 (by omega)
        clear hcs rd5 own5 hc5
        have hlr := BXr.out.lt
        go_wp2_with fail
        --H5
        go_region_held3 (fun w' => w'.cell? ⟨b5, o5, none⟩ = some (.int .i64 v0) ∧ w'.cell? ⟨b5, o5 + 1, none⟩ = some (.int .i64 v1) ∧ w'.cell? ⟨b5, o5 + 2, none⟩ = some (.int .i64 v2) ∧ w'.cell? ⟨b5, o5 + 3, none⟩ = some (.int .i64 v3) ∧ w'.cell? ⟨b5, o5 + 4, none⟩ = some (.int .i64 v4)) (first | go_keep | exact ⟨(cell_allocdP hb5 _).trans d0, (cell_allocdP hb5 _).trans d1, (cell_allocdP hb5 _).trans d2, (cell_allocdP hb5 _).trans d3, (cell_allocdP hb5 _).trans d4⟩)
          (first | fail)
        have hBa := Below.drew (below_alloc (Below.refl wr.heap.size wr) (.cells #[.int .i64 v0, .int .i64 v1, .int .i64 v2, .int .i64 v3, .int .i64 v4] 40))
        have BO := Lib.hid (show BoxAt (wr.alloc (.cells #[.int .i64 v0, .int .i64 v1, .int .i64 v2, .int .i64 v3, .int .i64 v4] 40)).drew wr.heap.size #[.int .i64 v0, .int .i64 v1, .int .i64 v2, .int .i64 v3, .int .i64 v4] 40 from box_new wr _ _)
        have BX4 := Lib.hid (BXr.out.below hBa)
        have HB4 := Lib.hid (below_below HBw.out hBa)
        obtain ⟨W4, hW4⟩ : ∃ W4, (wr.alloc (.cells #[.int .i64 v0, .int .i64 v1, .int .i64 v2, .int .i64 v3, .int .i64 v4] 40)).drew = W4 := ⟨_, rfl⟩
        rw [hW4] at BO BX4 HB4 ⊢
        have hl4 := BO.out.lt
        have bo4 := BO.out.cell
        clear hBa hW4 d0 d1 d2 d3 d4 BXr HBw HBr hlr
        go_wp2_with fail
        refine Calls.mono (HPO.out _) ?_
        rintro e w5 ⟨rfl, hB⟩
        have HB5 := Lib.hid (below_below HB4.out hB)
        have BX5 := Lib.hid (BX4.out.below hB)
        have BO5 := Lib.hid (BO.out.below hB)
        have bx5 := BX5.out.cell
        have bf5 := BX5.out.froz
        have hl5 := BX5.out.lt
        have bo5 := BO5.out.cell
        have ho5 := BO5.out.lt
        clear hB bo4 hl4 BX4 BO HB4 HPO
        cases PB
        · have HE := Lib.hid (G2.out (by simp))
          clear G1 G2 HPH
          go_wp2_with fail
          refine bodyPost_ret (v := .tuple #[.agg #[.int .i64 0, .int .i64 0, .int .i64 0, .int .i64 0, .int .i64 0], .bool false]) (by simp [results, Tryz.results92, go_sem, bx5, hl5]) rfl ⟨hole, false, rfl, HE.out, ?_⟩
          exact below_set5P HB5.out (Nat.le_refl _) _ _ _ _ _
        · clear bx5 bf5
          go_wp2_with fail
          refine Calls.mono (HPH.out _) ?_
          rintro e w6 ⟨rfl, hB⟩
          have HB6 := Lib.hid (below_below HB5.out hB)
          have BX6 := Lib.hid (BX5.out.below hB)
          have BO6 := Lib.hid (BO5.out.below hB)
          have bx6 := BX6.out.cell
          have bf6 := BX6.out.froz
          have hl6 := BX6.out.lt
          have bo6 := BO6.out.cell
          have ho6 := BO6.out.lt
          clear hB bo5 hl5 ho5 BX5 BO5 HB5 HPH
          cases PH
          · have HE := Lib.hid (G1.out (by simp))
            clear G1 G2
            go_wp2_with fail
            refine bodyPost_ret (v := .tuple #[.agg #[.int .i64 v0, .int .i64 v1, .int .i64 v2, .int .i64 v3, .int .i64 v4], .bool true]) (by simp [results, Tryz.results92, go_sem, bx6, hl6]) rfl ⟨⟨v0, v1, v2, v3, v4⟩, true, rfl, HE.out, ?_⟩
            exact below_set5P HB6.out (Nat.le_refl _) _ _ _ _ _
          · have HE := Lib.hid (G2.out (by simp))
            clear G1 G2
            go_wp2_with fail
            refine bodyPost_ret (v := .tuple #[.agg #[.int .i64 0, .int .i64 0, .int .i64 0, .int .i64 0, .int .i64 0], .bool false]) (by simp [results, Tryz.results92, go_sem, bx6, hl6]) rfl ⟨hole, false, rfl, HE.out, ?_⟩
            exact below_set5P HB6.out (Nat.le_refl _) _ _ _ _ _
  · have HE := Lib.hid (HL.out h5)
    have h5' : ((xs.length : Int) != 5) = true := by simp; omega
    have bx4 := BX2.out.cell
    have bf4 := BX2.out.froz
    have hl4 := BX2.out.lt
    clear h5 HL HX
    go_wp2_with fail
    refine bodyPost_ret (v := .tuple #[.agg #[.int .i64 0, .int .i64 0, .int .i64 0, .int .i64 0, .int .i64 0], .bool false]) (by simp [results, Tryz.results92, go_sem, bx4, hl4]) rfl ⟨hole, false, rfl, HE.out, ?_⟩
    exact below_set5P HB2.out (Nat.le_refl _) _ _ _ _ _

end Go.Proofs.YtafadedacbjioaaGreatDoor

/- A struct's fields, out of its reading. -/
namespace Go.Proofs.YtafadedacbjioaaGreatDoor
open Go.RowKit Go.ChangeShapes Go.WideShapes Go.ChangeAt
set_option maxRecDepth 100000
set_option linter.unusedVariables false

theorem trod_field {H : Type} {enc : TypeId × Value → H} {P : Program} {w : World} {base : Nat} {spare : Nat → Bool} {held : Bool} {fuel : Nat} {t : TypeId} {fs : Array Field} {cs : List Value} {x : DataW H × List MemPlace} (ht : P.underlying t = some (.struct fs)) (h : DataW.trod enc P w base spare held fuel t cs = some x) (i : Nat) (f : Field) (hf : fs[i]? = some f) :
    ∃ n y, DataW.trod enc P w base spare held n f.type ((cs.drop f.offset).take (P.cellsOf f.type)) = some y := by
  obtain ⟨xs, n, _, _, _, hlen, hg⟩ := DataW.trod_struct ht h
  have hi : i < xs.length := by
    rw [hlen]
    rcases Nat.lt_or_ge i fs.size with h' | h'
    · exact h'
    · rw [Array.getElem?_eq_none h'] at hf; cases hf
  exact ⟨n, xs[i], by rw [hg i f hf]; exact List.getElem?_eq_getElem hi⟩

theorem trod_at {H : Type} {enc : TypeId × Value → H} {P : Program} {w : World} {base : Nat} {spare : Nat → Bool} {held : Bool} {fuel : Nat} {t : TypeId} {fs : Array Field} {cs : List Value} {x : DataW H × List MemPlace} (ht : P.underlying t = some (.struct fs)) (h : DataW.trod enc P w base spare held fuel t cs = some x) (i : Nat) {f : Field} (hf : fs[i]? = some f) {T off c : Nat} (hT : f.type = T) (ho : f.offset = off) (hc : P.cellsOf T = c) {cs' : List Value} (hcs : (cs.drop off).take c = cs') :
    ∃ n y, DataW.trod enc P w base spare held n T cs' = some y := by
  obtain ⟨n, y, h⟩ := trod_field ht h i f hf
  rw [hT, hc, ho, hcs] at h
  exact ⟨n, y, h⟩

end Go.Proofs.YtafadedacbjioaaGreatDoor
