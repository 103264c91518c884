/- Paths, in plain Lean: a text cut at a byte and put together again; no program in sight. -/
import Derived.Test.YthedmiippfpbnaaGreatDoorNames
import Derived.Lib.SplitLaws
import Derived.Lib.Join
import Derived.Lib.IndexMore
import Derived.Lib.Bytes
namespace Go.Proofs.YthedmiippfpbnaaGreatDoor
open Go.RowKit
set_option linter.unusedVariables false

theorem bytes_append (a b : ByteArray) : (a ++ b).data.toList = a.data.toList ++ b.data.toList := by
  rw [ByteArray.data_append]; simp
theorem size_data (s : ByteArray) : s.data.toList.length = s.size := Array.length_toList

/-- A text cut at a byte, 'acc' being what was met since the last cut. -/
def cutA (c : UInt8) : List UInt8 → List UInt8 → List (List UInt8)
  | acc, [] => [acc]
  | acc, b :: r => if b = c then acc :: cutA c [] r else cutA c (acc ++ [b]) r
def cutL (c : UInt8) (s : List UInt8) : List (List UInt8) := cutA c [] s
/-- Each text behind a byte. -/
def slash (c : UInt8) (xs : List (List UInt8)) : List UInt8 := (xs.map (c :: ·)).flatten

theorem cutA_slash (c : UInt8) : ∀ (s acc : List UInt8), slash c (cutA c acc s) = c :: acc ++ s
  | [], acc => by simp [cutA, slash]
  | b :: r, acc => by
    unfold cutA
    by_cases h : b = c
    · subst h
      have := cutA_slash b r []
      simp only [if_true, slash, List.map_cons, List.flatten_cons] at this ⊢
      rw [this]
      simp
    · rw [if_neg h, cutA_slash c r]
      simp
theorem cutL_slash (c : UInt8) (s : List UInt8) : slash c (cutL c s) = c :: s := by
  rw [cutL, cutA_slash]; simp

theorem cutA_free (c : UInt8) : ∀ (s acc : List UInt8), c ∉ acc → ∀ x ∈ cutA c acc s, c ∉ x
  | [], acc, h, x, hx => by simp [cutA] at hx; subst hx; exact h
  | b :: r, acc, h, x, hx => by
    unfold cutA at hx
    split at hx
    · rcases List.mem_cons.1 hx with rfl | hx
      · exact h
      · exact cutA_free c r [] (by simp) x hx
    · next hb =>
      refine cutA_free c r _ ?_ x hx
      intro hm
      rcases List.mem_append.1 hm with hm | hm
      · exact h hm
      · simp at hm; exact hb hm.symm

theorem cutA_skip (c : UInt8) : ∀ (x acc r : List UInt8), c ∉ x → cutA c acc (x ++ r) = cutA c (acc ++ x) r
  | [], acc, r, _ => by simp
  | b :: x, acc, r, h => by
    have hb : ¬ b = c := fun e => h (by simp [e])
    have hx : c ∉ x := fun e => h (by simp [e])
    rw [List.cons_append, cutA, if_neg hb, cutA_skip c x _ r hx]
    simp
theorem cutL_one (c : UInt8) (x : List UInt8) (h : c ∉ x) : cutL c x = [x] := by
  have := cutA_skip c x [] [] h
  rw [List.append_nil] at this
  rw [cutL, this]
  simp [cutA]
theorem cutL_hit (c : UInt8) (x r : List UInt8) (h : c ∉ x) : cutL c (x ++ c :: r) = x :: cutL c r := by
  rw [cutL, cutA_skip c x [] _ h, cutA, if_pos rfl]
  rfl
/-- What was put together comes apart again. -/
theorem cutL_put (c : UInt8) : ∀ (xs : List (List UInt8)) (x : List UInt8), (∀ y ∈ x :: xs, c ∉ y) → cutL c (x ++ slash c xs) = x :: xs
  | [], x, h => by
    rw [show slash c [] = [] from rfl, List.append_nil]
    exact cutL_one c x (h x (by simp))
  | y :: ys, x, h => by
    have e : x ++ slash c (y :: ys) = x ++ c :: (y ++ slash c ys) := by simp [slash]
    rw [e, cutL_hit c x _ (h x (by simp)), cutL_put c ys y (fun z hz => h z (List.mem_cons_of_mem _ hz))]
theorem slash_inj {c : UInt8} {xs ys : List (List UInt8)} (hx : ∀ y ∈ xs, c ∉ y) (hy : ∀ y ∈ ys, c ∉ y) (h : slash c xs = slash c ys) : xs = ys := by
  cases xs with
  | nil =>
    cases ys with
    | nil => rfl
    | cons y ys => simp [slash] at h
  | cons x xs =>
    cases ys with
    | nil => simp [slash] at h
    | cons y ys =>
      have e1 : slash c (x :: xs) = c :: (x ++ slash c xs) := by simp [slash]
      have e2 : slash c (y :: ys) = c :: (y ++ slash c ys) := by simp [slash]
      rw [e1, e2] at h
      have h' := List.tail_eq_of_cons_eq h
      rw [← cutL_put c xs x hx, ← cutL_put c ys y hy, h']

/-- strings.Split at one byte. -/
theorem split_cut (c : UInt8) : ∀ (k : Nat) (s : List UInt8), Lib.count s [c] = k → Lib.splitK [c] 0 k s = cutL c s
  | 0, s, hk => by
    rw [Lib.count_one] at hk
    rw [cutL_one c s (List.count_eq_zero.1 hk)]
    rfl
  | k + 1, s, hk => by
    rcases Lib.index_spec s [c] with ⟨hm, _⟩ | ⟨i, hi, hil, ho, hno⟩
    · rw [Lib.count_miss hm] at hk; omega
    · have hne : ¬ (Lib.index s [c] == -1) = true := fun e => by have := beq_iff_eq.1 e; omega
      have hc := Lib.count_hit (by simp) hi
      rw [Lib.splitK, if_neg hne, hi]
      have e1 : ((i : Int)).toNat = i := by omega
      rw [e1]
      simp only [Nat.add_zero, List.length_cons, List.length_nil, Nat.zero_add] at hc ⊢
      rw [split_cut c k (s.drop (i + 1)) (by omega)]
      have hb := Lib.index_one s c
      rw [hi] at hb
      obtain ⟨h1, h2⟩ := Lib.indexByte_some hb.symm
      have hlt : i < s.length := by
        rcases Nat.lt_or_ge i s.length with h' | h'
        · exact h'
        · rw [List.getElem?_eq_none h'] at h1; cases h1
      have hsi : s[i] = c := by rw [List.getElem?_eq_getElem hlt] at h1; exact Option.some.inj h1
      have hs : s = s.take i ++ c :: s.drop (i + 1) := by
        conv => lhs; rw [← List.take_append_drop i s, List.drop_eq_getElem_cons hlt, hsi]
      have hfree : c ∉ s.take i := fun hm => by
        obtain ⟨j, hj⟩ := List.getElem?_of_mem hm
        rw [List.getElem?_take] at hj
        split at hj
        · exact h2 j (by assumption) hj
        · cases hj
      conv => rhs; rw [hs]
      rw [cutL_hit c _ _ hfree]

/-- A list of bytes as a text. -/
def ofL (l : List UInt8) : ByteArray := ⟨l.toArray⟩
theorem ofL_data (l : List UInt8) : (ofL l).data.toList = l := by simp [ofL]
theorem data_ofL (s : ByteArray) : ofL s.data.toList = s := by simp [ofL]
theorem ofL_ext {a b : ByteArray} (h : a.data.toList = b.data.toList) : a = b := by
  rw [← data_ofL a, ← data_ofL b, h]
theorem ofL_size (l : List UInt8) : (ofL l).size = l.length := by simp [ofL, ByteArray.size]

/-- The pieces of a text. -/
def cutB (c : UInt8) (s : ByteArray) : List ByteArray := (cutL c s.data.toList).map ofL
theorem map_data_ofL (xs : List (List UInt8)) : (xs.map ofL).map (·.data.toList) = xs := by
  rw [List.map_map]
  conv => rhs; rw [← List.map_id xs]
  apply List.map_congr_left
  intro a _
  exact ofL_data a
theorem map_ofL_data (xs : List ByteArray) : (xs.map (·.data.toList)).map ofL = xs := by
  rw [List.map_map]
  conv => rhs; rw [← List.map_id xs]
  apply List.map_congr_left
  intro a _
  exact data_ofL a
theorem splitB_cut (c : UInt8) (s : ByteArray) : Lib.splitB ⟨#[c]⟩ 0 (Lib.countB s ⟨#[c]⟩) s = cutB c s := by
  have h := Lib.splitB_data ⟨#[c]⟩ 0 (Lib.countB s ⟨#[c]⟩) s
  have e : (⟨#[c]⟩ : ByteArray).data.toList = [c] := rfl
  rw [e, split_cut c _ s.data.toList rfl] at h
  rw [cutB, ← h, map_ofL_data]

/-- The text of names, each behind a byte. -/
def slashB (c : UInt8) (xs : List ByteArray) : ByteArray := ofL (slash c (xs.map (·.data.toList)))
theorem slashB_nil (c : UInt8) : slashB c [] = ByteArray.empty := rfl
theorem slashB_snoc (c : UInt8) (xs : List ByteArray) (x : ByteArray) : slashB c (xs ++ [x]) = slashB c xs ++ (⟨#[c]⟩ ++ x) := by
  apply ofL_ext
  rw [bytes_append, bytes_append]
  simp [slashB, ofL_data, slash]

/-- No name holds a slash. -/
theorem name_free {s : ByteArray} (h : nameB s = true) : (47 : UInt8) ∉ s.data.toList := by
  intro hm
  obtain ⟨i, hi, he⟩ := List.mem_iff_getElem.1 hm
  have hi' : i < s.size := by rw [← size_data]; exact hi
  have e : s[i] = 47 := by rw [← he]; rfl
  have := nameB_no hi' (.inl (by rw [e]; decide))
  rw [this] at h
  cases h

/-- The path of names. -/
def pathT (xs : List ByteArray) : ByteArray := if xs = [] then ⟨#[47]⟩ else slashB 47 xs
def pathOfB (xs : List ByteArray) : Bool := decide (xs.length ≤ 4) && xs.all nameB
def pathOfT (xs : List ByteArray) : ByteArray := if pathOfB xs = true then pathT xs else ByteArray.empty
/-- The names of a text that may be a path. -/
def namesOf (s : ByteArray) : List ByteArray := if s = ⟨#[47]⟩ then [] else (cutB 47 s).drop 1
def pathB (s : ByteArray) : Bool := decide (s = ⟨#[47]⟩) || (decide (s.data.toList.head? = some 47) && pathOfB (namesOf s))
def namesT (s : ByteArray) : List ByteArray := if pathB s = true then namesOf s else []

/-- "/" and the names, joined. -/
theorem pathT_join (xs : List ByteArray) : (⟨#[47]⟩ : ByteArray) ++ ofL (Lib.join (xs.map (·.data.toList)) [47]) = pathT xs := by
  apply ofL_ext
  rw [bytes_append, ofL_data]
  cases xs with
  | nil => simp [pathT, Lib.join_nil]
  | cons x r =>
    rw [List.map_cons, Lib.join_cons]
    simp [pathT, slashB, ofL_data, slash, Lib.joinTail, Function.comp_def]

/-- What stands behind the slash. -/
theorem head_cut {s : ByteArray} (h : s.data.toList.head? = some 47) : ∃ r, s.data.toList = 47 :: r ∧ (cutB 47 s).drop 1 = cutB 47 (ofL r) := by
  cases hs : s.data.toList with
  | nil => rw [hs] at h; cases h
  | cons b r =>
    rw [hs] at h
    simp at h
    subst h
    refine ⟨r, rfl, ?_⟩
    have : cutL 47 (47 :: r) = [] :: cutL 47 r := cutL_hit 47 [] r (by simp)
    simp [cutB, hs, this, ofL_data]

theorem cutB_ne (c : UInt8) (s : ByteArray) : cutB c s ≠ [] := by
  intro h
  have : slash c (cutL c s.data.toList) = slash c [] := by
    have h' : cutL c s.data.toList = [] := by simpa [cutB] using h
    rw [h']
  rw [cutL_slash] at this
  simp [slash] at this

/-- The names of a text, put together, are the text. -/
theorem pathT_names {s : ByteArray} (h : s.data.toList.head? = some 47) : pathT (namesOf s) = s := by
  by_cases h1 : s = ⟨#[47]⟩
  · subst h1
    simp [namesOf, pathT]
  · obtain ⟨r, hr, hd⟩ := head_cut h
    rw [namesOf, if_neg h1, hd, pathT, if_neg (cutB_ne 47 _)]
    apply ofL_ext
    rw [slashB, ofL_data, cutB, map_data_ofL, ofL_data, cutL_slash, hr]

theorem all_nameB {xs : List ByteArray} (h : pathOfB xs = true) : xs.length ≤ 4 ∧ ∀ x ∈ xs, nameB x = true := by
  simp only [pathOfB, Bool.and_eq_true, decide_eq_true_eq, List.all_eq_true] at h
  exact h

theorem slash_len (c : UInt8) : ∀ (xs : List ByteArray), (∀ x ∈ xs, x.size ≤ 4) → (slash c (xs.map (·.data.toList))).length ≤ 5 * xs.length
  | [], _ => by simp [slash]
  | x :: r, h => by
    have ih := slash_len c r (fun y hy => h y (List.mem_cons_of_mem _ hy))
    have hx : x.data.toList.length ≤ 4 := by rw [size_data]; exact h x (by simp)
    simp only [slash, List.map_cons, List.flatten_cons, List.length_append, List.length_cons] at ih ⊢
    omega
theorem pathT_size {xs : List ByteArray} (h : pathOfB xs = true) : (pathT xs).size ≤ 20 := by
  obtain ⟨h1, h2⟩ := all_nameB h
  unfold pathT
  split
  · decide
  · have := slash_len 47 xs (fun x hx => (nameB_size (h2 x hx)).2)
    rw [slashB, ofL_size]
    omega
/-- A path is no longer than 20 bytes. -/
theorem pathB_size {s : ByteArray} (h : pathB s = true) : s.size ≤ 20 := by
  simp only [pathB, Bool.or_eq_true, Bool.and_eq_true, decide_eq_true_eq] at h
  rcases h with rfl | ⟨h1, h2⟩
  · decide
  · rw [← pathT_names h1]
    exact pathT_size h2
/-- The names of a path of names. -/
theorem names_pathT {xs : List ByteArray} (h : ∀ x ∈ xs, nameB x = true) : namesOf (pathT xs) = xs := by
  cases xs with
  | nil => simp [pathT, namesOf]
  | cons x r =>
    have hx := nameB_size (h x (by simp))
    have e : pathT (x :: r) = slashB 47 (x :: r) := by simp [pathT]
    have hd : (pathT (x :: r)).data.toList = 47 :: (x.data.toList ++ slash 47 (r.map (·.data.toList))) := by
      rw [e, slashB, ofL_data]; simp [slash]
    have hne : pathT (x :: r) ≠ ⟨#[47]⟩ := fun e => by
      rw [e] at hd
      have hl := congrArg List.length hd
      have := size_data x
      have h1 : (⟨#[47]⟩ : ByteArray).data.toList.length = 1 := rfl
      rw [h1, List.length_cons, List.length_append] at hl
      omega
    obtain ⟨q, hq, hc⟩ := head_cut (s := pathT (x :: r)) (by rw [hd]; rfl)
    rw [namesOf, if_neg hne, hc]
    rw [hd] at hq
    have hq' := List.tail_eq_of_cons_eq hq
    rw [cutB, ofL_data, ← hq', cutL_put 47 _ _ (fun y hy => by
      rw [← List.map_cons (f := fun b : ByteArray => b.data.toList)] at hy
      obtain ⟨z, hz, rfl⟩ := List.mem_map.1 hy
      exact name_free (h z hz)), ← List.map_cons (f := fun b : ByteArray => b.data.toList), map_ofL_data]

theorem path_head (xs : List ByteArray) : (pathT xs).data.toList.head? = some 47 := by
  unfold pathT
  split
  · rfl
  · next h =>
    cases xs with
    | nil => exact absurd rfl h
    | cons x r => rw [slashB, ofL_data]; simp [slash]
/-- A path of names is a path. -/
theorem pathB_pathT {xs : List ByteArray} (h : pathOfB xs = true) : pathB (pathT xs) = true := by
  have h2 := (all_nameB h).2
  simp [pathB, path_head, names_pathT h2, h]
theorem pathB_cases {s : ByteArray} (h : pathB s = true) : s.data.toList.head? = some 47 ∧ pathOfB (namesOf s) = true := by
  simp only [pathB, Bool.or_eq_true, Bool.and_eq_true, decide_eq_true_eq] at h
  rcases h with rfl | h
  · exact ⟨rfl, rfl⟩
  · exact h

end Go.Proofs.YthedmiippfpbnaaGreatDoor
