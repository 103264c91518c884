/- A store's validity in plain Lean; the greatest of a list. -/
import Derived.Test.YtomofiklodojeaaStoreHelp
import Derived.Test.YtomofiklodojeaaSpOf
import Derived.Test.YtomofiklodojeaaSpace
import Derived.Lib.MinMax
namespace Go.Proofs.Ytomofiklodojeaa
open Go.RowKit
set_option maxRecDepth 100000
set_option linter.unusedVariables false
set_option linter.unusedSimpArgs false

/-- The greatest. -/
def maxL : List Int → Int
  | [] => 0
  | x :: r => r.foldl max x
theorem foldl_max_le (r : List Int) (x t : Int) : r.foldl max x ≤ t ↔ x ≤ t ∧ ∀ y ∈ r, y ≤ t := by
  induction r generalizing x with
  | nil => simp
  | cons y r ih =>
    rw [List.foldl_cons, ih]
    simp only [List.mem_cons, forall_eq_or_imp]
    constructor
    · rintro ⟨h, h2⟩; exact ⟨by omega, by omega, h2⟩
    · rintro ⟨h, h1, h2⟩; exact ⟨by omega, h2⟩
theorem maxL_le {xs : List Int} (h : xs ≠ []) {t : Int} : maxL xs ≤ t ↔ ∀ y ∈ xs, y ≤ t := by
  cases xs with
  | nil => exact absurd rfl h
  | cons x r =>
    show r.foldl max x ≤ t ↔ _
    rw [foldl_max_le]
    simp
theorem maxL_push {xs : List Int} (h : xs ≠ []) (y : Int) : maxL (xs ++ [y]) = max (maxL xs) y := by
  cases xs with
  | nil => exact absurd rfl h
  | cons x r =>
    show (r ++ [y]).foldl max x = max (r.foldl max x) y
    rw [List.foldl_append]; rfl
theorem maxL_take {xs : List Int} {k : Nat} (h1 : 1 ≤ k) (hk : k < xs.length) : maxL (xs.take (k + 1)) = max (maxL (xs.take k)) (xs.getD k 0) := by
  have e : xs.take (k + 1) = xs.take k ++ [xs.getD k 0] := by
    rw [List.take_add_one, List.getElem?_eq_getElem hk, List.getD_eq_getElem?_getD, List.getElem?_eq_getElem hk]; rfl
  rw [e, maxL_push]
  intro h0
  have hl : (xs.take k).length = k := by rw [List.length_take]; omega
  rw [h0] at hl
  have hl' : 0 = k := hl
  omega
theorem maxL_one {xs : List Int} (h : 0 < xs.length) : maxL (xs.take 1) = xs.getD 0 0 := by
  cases xs with
  | nil => simp at h
  | cons x r => rfl

set_option maxHeartbeats 1000000 in
theorem slicesMax_any (w : World) (A : Option Addr) (c : Nat) (xs : List Int) (h : RdT encN 1 w A xs) (h1 : 0 < xs.length) (hc : xs.length ≤ c) (hm : c ≤ 9223372036854775807) :
    Calls Try.prog 75 #[.slice A xs.length c] w fun e w' => e = .returned (.int .i64 (maxL xs)) ∧ w = w' := by
  have HR := Lib.hid h
  have HE := Lib.hid (show maxL (xs.take xs.length) = maxL xs by rw [List.take_length])
  have H1 := Lib.hid (maxL_one h1)
  have HT := Lib.hid (fun k a b => maxL_take (xs := xs) (k := k) a b)
  obtain ⟨b0, off0, rfl, hb0, c0⟩ := num_at (k := 0) h h1
  rw [Nat.add_zero] at c0
  generalize maxL xs = r at *
  generalize hx0 : xs.getD 0 0 = x0 at *
  clear h hx0
  go_enter Try.func75, Try.ntmps75
  go_wp2_with fail
  go_loop [3, 4] (fun x i => ∃ (k : Nat) (a : Int), 1 ≤ k ∧ k ≤ xs.length ∧ i = .int .i64 k ∧ x = .int .i64 a ∧ Hid (maxL (xs.take k) = a)) (fun _ i => xs.length - (intOf i).toNat)
  case atStart => exact ⟨1, x0, Nat.le_refl _, h1, rfl, rfl, H1⟩
  case round =>
    clear c0 H1
    obtain ⟨k, a, hk1, hk, rfl, rfl, HS⟩ := hrel
    by_cases hlt : k < xs.length
    · obtain ⟨b, off, hq, hb, c1⟩ := num_at (k := k) HR.out hlt
      cases hq
      have HS2 := Lib.hid ((HT.out k hk1 hlt).trans (by rw [HS.out]))
      generalize xs.getD k 0 = y at *
      clear HS HT HE
      go_wp2_with fail
      exact ⟨⟨k + 1, _, by omega, by omega, by go_num, rfl, HS2⟩, by simp [intOf]; omega⟩
    · obtain rfl : k = xs.length := by omega
      have HZ := Lib.hid (HE.out.symm.trans HS.out)
      clear HS HT HE
      go_wp2_with fail
      go_ret
      exact ⟨ret_int HZ.out.symm, rfl⟩

/-- A store's validity. -/
def headB (s : St) : Bool := decide (s.rows.length = 64) && (spaceB s.refs s.last && (inB s.txg 1 900 && inB s.keep 0 (s.txg - 1)))
def rowB (s : St) (i : Nat) : Bool := decide ((s.rows.getD i ⟨#[]⟩).size ≤ 128) && ((((s.rows.getD i ⟨#[]⟩).toList == (⟨#[]⟩ : ByteArray).toList) == (s.refs.getD i 0 == 0)) && decide (s.last.getD i 0 ≤ s.txg))
def goneB (top : Int) (p : Pt) : Bool := ptrB p && (!holeB p && decide (p.birth ≤ top))
def cnt (l : List Pt) (j : Nat) : Int := (((l.filter fun p => p.at_ == (j : Int)).length : Nat) : Int)
def owedB (s : St) (l : List Pt) : Bool := (List.range 64).all fun j => decide (cnt l j ≤ s.refs.getD j 0)
def storeB (s : St) : Bool := headB s && ((List.range 64).all (rowB s) && (s.gone.all (goneB (s.txg - 1)) && (s.dead.all (goneB s.keep) && owedB s (s.gone ++ s.dead))))

theorem cnt_push (l : List Pt) (p : Pt) (j : Nat) : cnt (l ++ [p]) j = cnt l j + if p.at_ = (j : Int) then 1 else 0 := by
  unfold cnt
  rw [List.filter_append, List.length_append]
  by_cases h : p.at_ = (j : Int)
  · rw [if_pos h]
    simp [List.filter_cons, h]
  · rw [if_neg h]
    simp [List.filter_cons, h]
theorem cnt_app (l m : List Pt) (j : Nat) : cnt l j ≤ cnt (l ++ m) j := by
  unfold cnt
  rw [List.filter_append, List.length_append]
  omega
theorem cnt_nil (j : Nat) : cnt [] j = 0 := rfl
theorem cnt_nn (l : List Pt) (j : Nat) : 0 ≤ cnt l j := Int.natCast_nonneg _
theorem cnt_le (l : List Pt) (j : Nat) : cnt l j ≤ l.length := by
  unfold cnt
  have := List.length_filter_le (fun p : Pt => p.at_ == (j : Int)) l
  omega
theorem cnt_mem {l : List Pt} {p : Pt} (h : p ∈ l) (h0 : 0 ≤ p.at_) : 1 ≤ cnt l p.at_.toNat := by
  unfold cnt
  have : p ∈ l.filter fun q => q.at_ == ((p.at_.toNat : Nat) : Int) := by
    rw [List.mem_filter]
    refine ⟨h, ?_⟩
    simp only [beq_iff_eq]
    omega
  have := List.length_pos_of_mem this
  omega
/-- The counts, as a row. -/
def cntRow (l : List Pt) : List Int := (List.range 64).map (cnt l)
theorem cntRow_nil : cntRow [] = List.replicate 64 0 := by decide
theorem cntRow_len (l : List Pt) : (cntRow l).length = 64 := by simp [cntRow]
theorem cntRow_get (l : List Pt) {j : Nat} (h : j < 64) : (cntRow l).getD j 0 = cnt l j := by
  rw [List.getD_eq_getElem?_getD]
  simp [cntRow, h]
theorem cntRow_push (l : List Pt) {p : Pt} (h0 : 0 ≤ p.at_) (h1 : p.at_ < 64) : cntRow (l ++ [p]) = (cntRow l).set p.at_.toNat (cnt l p.at_.toNat + 1) := by
  apply List.ext_getElem?
  intro i
  by_cases hi : i < 64
  · by_cases he : i = p.at_.toNat
    · subst he
      rw [List.getElem?_set_self (by rw [cntRow_len]; omega)]
      simp only [cntRow, List.getElem?_map, List.getElem?_range hi, Option.map_some]
      rw [cnt_push, if_pos (by omega)]
    · rw [List.getElem?_set_ne (by omega)]
      simp only [cntRow, List.getElem?_map, List.getElem?_range hi, Option.map_some]
      rw [cnt_push, if_neg (by omega)]
      simp
  · rw [List.getElem?_eq_none (by rw [cntRow_len]; omega), List.getElem?_eq_none (by rw [List.length_set, cntRow_len]; omega)]

section
variable {s : St}
theorem store_head (h : headB s = false) : storeB s = false := by rw [storeB, h]; rfl
theorem store_row {k : Nat} (hk : k < 64) (h : rowB s k = false) : storeB s = false := by
  have : (List.range 64).all (rowB s) = false := by
    rw [List.all_eq_false]
    exact ⟨k, by simpa using hk, by rw [h]; exact fun e => by cases e⟩
  rw [storeB, this]
  simp
theorem all_no {α : Type} {f : α → Bool} {l : List α} {x : α} (hm : x ∈ l) (h : f x = false) : l.all f = false := by
  rw [List.all_eq_false]
  exact ⟨x, hm, by rw [h]; exact fun e => by cases e⟩
theorem store_gone {p : Pt} (hp : p ∈ s.gone) (h : goneB (s.txg - 1) p = false) : storeB s = false := by
  rw [storeB, all_no hp h]
  simp
theorem store_dead {p : Pt} (hp : p ∈ s.dead) (h : goneB s.keep p = false) : storeB s = false := by
  rw [storeB, all_no hp h]
  simp
theorem store_owed {j : Nat} (hj : j < 64) (h : s.refs.getD j 0 < cnt (s.gone ++ s.dead) j) : storeB s = false := by
  have : owedB s (s.gone ++ s.dead) = false := all_no (x := j) (by simpa using hj) (decide_eq_false (by omega))
  rw [storeB, this]
  simp
theorem store_yes (h1 : headB s = true) (h2 : ∀ i, i < 64 → rowB s i = true) (h3 : ∀ p ∈ s.gone, goneB (s.txg - 1) p = true) (h4 : ∀ p ∈ s.dead, goneB s.keep p = true) (h5 : ∀ j, j < 64 → cnt (s.gone ++ s.dead) j ≤ s.refs.getD j 0) : storeB s = true := by
  rw [storeB, h1, List.all_eq_true.2 (fun i hi => h2 i (by simpa using hi)), List.all_eq_true.2 h3, List.all_eq_true.2 h4]
  simp only [Bool.true_and]
  unfold owedB
  rw [List.all_eq_true]
  exact fun j hj => by simpa using h5 j (by simpa using hj)
theorem row_no {i : Nat} (h : ¬ ((s.rows.getD i ⟨#[]⟩).size ≤ 128 ∧ s.last.getD i 0 ≤ s.txg) ∨ ((s.rows.getD i ⟨#[]⟩).toList == (⟨#[]⟩ : ByteArray).toList) ≠ (s.refs.getD i 0 == 0)) : rowB s i = false := by
  unfold rowB
  generalize s.rows.getD i ⟨#[]⟩ = row at *
  generalize s.last.getD i 0 = la at *
  generalize s.refs.getD i 0 = re at *
  rcases h with h | h
  · rcases Classical.not_and_iff_not_or_not.1 h with h | h <;> simp [h]
  · have : ((row.toList == (⟨#[]⟩ : ByteArray).toList) == (re == 0)) = false := beq_eq_false_iff_ne.2 h
    rw [this]; simp
theorem row_yes {i : Nat} (h1 : (s.rows.getD i ⟨#[]⟩).size ≤ 128) (h2 : s.last.getD i 0 ≤ s.txg) (h3 : ((s.rows.getD i ⟨#[]⟩).toList == (⟨#[]⟩ : ByteArray).toList) = (s.refs.getD i 0 == 0)) : rowB s i = true := by
  unfold rowB
  rw [h3]
  generalize s.rows.getD i ⟨#[]⟩ = row at *
  generalize s.last.getD i 0 = la at *
  simp [h1, h2]
theorem gone_no {top : Int} {p : Pt} (h : ptrB p = false ∨ holeB p = true ∨ top < p.birth) : goneB top p = false := by
  unfold goneB
  rcases h with h | h | h
  · rw [h]; rfl
  · rw [h]; simp
  · have : ¬ p.birth ≤ top := by omega
    simp [this]
theorem gone_yes {top : Int} {p : Pt} (h1 : ptrB p = true) (h2 : holeB p = false) (h3 : p.birth ≤ top) : goneB top p = true := by
  unfold goneB
  rw [h1, h2]
  simp [h3]
theorem gone_in {top : Int} {p : Pt} (h : goneB top p = true) : 8 ≤ p.at_ ∧ p.at_ ≤ 63 := by
  simp only [goneB, Bool.and_eq_true] at h
  have := ptr_in h.1 (by simpa using h.2.1)
  omega
theorem last_all (h1 : headB s = true) (h2 : maxL s.last ≤ s.txg) {i : Nat} (hi : i < 64) : s.last.getD i 0 ≤ s.txg := by
  simp only [headB, spaceB, Bool.and_eq_true, decide_eq_true_eq] at h1
  have hl := h1.2.1.2.1
  have hm := (maxL_le (by intro e; rw [e] at hl; simp at hl) (t := s.txg)).1 h2
  have : s.last[i]? = some s.last[i] := List.getElem?_eq_getElem (by omega)
  rw [List.getD_eq_getElem?_getD, this]
  exact hm _ (List.getElem_mem _)
theorem last_bad (h1 : headB s = true) (h2 : ¬ maxL s.last ≤ s.txg) : storeB s = false := by
  have hh := h1
  simp only [headB, spaceB, Bool.and_eq_true, decide_eq_true_eq] at h1
  have hl := h1.2.1.2.1
  rw [maxL_le (by intro e; rw [e] at hl; simp at hl)] at h2
  simp only [Classical.not_forall] at h2
  obtain ⟨y, hy, hy2⟩ := h2
  obtain ⟨i, hi, he⟩ := List.mem_iff_getElem.1 hy
  refine store_row (k := i) (by omega) (row_no (.inl ?_))
  rw [List.getD_eq_getElem?_getD (l := s.last), List.getElem?_eq_getElem hi, he]
  simp
  omega
end

end Go.Proofs.Ytomofiklodojeaa
