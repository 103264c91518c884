/- Paths, the reference's functions, from the names on. -/
import Derived.Test.YtjalboplilolkaaDoorPathSpec
namespace Go.Proofs.YtjalboplilolkaaDoor
open Go.RowKit
set_option linter.unusedVariables false
set_option linter.unusedSimpArgs false

/-- A slice that reads as a list of texts. -/
def RdS (w : World) (xs : List ByteArray) (e : Ending) (w' : World) : Prop := ∃ A cap, e = .returned (.slice A xs.length cap) ∧ xs.length ≤ cap ∧ cap ≤ 9223372036854775807 ∧ RdT encS 1 w' A xs ∧ Below w.heap.size w w'

theorem drop_one {l : List ByteArray} (h : l ≠ []) : (l.drop 1).length + 1 = l.length := by
  cases l with
  | nil => exact absurd rfl h
  | cons x r => simp

theorem ne_root {s : ByteArray} (h : s ≠ ⟨#[47]⟩) : (s.toList == [47]) = false := by
  cases he : (s.toList == [47])
  · rfl
  · rw [beq_iff_eq, Lib.toList_data] at he
    exact absurd (ofL_ext (by rw [he])) h

set_option maxHeartbeats 1000000 in
theorem l14Names_any (w : World) (s : ByteArray) (hs : s.size ≤ 1048576) :
    Calls Tryd.prog 104 #[.string s] w (RdS w (namesOf s)) := by
  by_cases h : s = ⟨#[47]⟩
  · subst h
    have e : namesOf ⟨#[47]⟩ = [] := by simp [namesOf]
    rw [e]
    go_enter Tryd.func104, Tryd.ntmps104
    go_wp2_with fail
    go_ret
    exact ⟨_, 0, rfl, Nat.le_refl _, by omega, RdT.none_, by (repeat (first | assumption | exact Below.refl _ _ | refine below_alloc ?_ _ | refine Below.drew ?_ | refine below_drewN ?_ _ | refine below_set ?_ (by first | exact Nat.le_refl _ | omega | (simp; done) | (simp; omega)) _ | refine below_kp ?_ (by assumption) (by simp) | refine below_below ?_ (by assumption)))⟩
  · have e1 := ne_root h
    have HN := Lib.hid (show namesOf s = (cutB 47 s).drop 1 by rw [namesOf, if_neg h])
    have HL := Lib.hid (drop_one (cutB_ne 47 s))
    have HC := Lib.hid (l2Cut_any w s 47 hs)
    go_enter Tryd.func104, Tryd.ntmps104
    go_wp2_with fail
    refine Calls.mono HC.out ?_
    rintro e w1 ⟨v, rfl, hO, hB⟩
    obtain ⟨g, cap, rfl⟩ : ∃ g cap, v = .slice (some ⟨g, 0, none⟩) (cutB 47 s).length cap := by
      rcases hO.2 with ⟨_, h0⟩ | ⟨g, cap, cur, hv, _⟩
      · have := HL.out; omega
      · exact ⟨g, cap, hv⟩
    obtain ⟨A, cap', hv, h1, h2, _, h3⟩ := hO.form
    cases hv
    have HR := Lib.hid (show RdT encS 1 w1 (some ⟨g, 0 + 1 * 1, none⟩) ((cutB 47 s).drop 1) from h3.drop 1 rfl)
    obtain ⟨m, hm⟩ : ∃ m, (cutB 47 s).length = m + 1 := ⟨((cutB 47 s).drop 1).length, HL.out.symm⟩
    have HM := Lib.hid (show ((cutB 47 s).drop 1).length = m by have := HL.out; omega)
    clear hO h3
    rw [hm] at h1 ⊢
    have q1 : 1 ≤ cap := by omega
    by_cases hc : cap = 1
    · go_wp2_with fail
      go_ret
      refine (?_ : RdS w (namesOf s) _ _)
      rw [HN.out]
      exact ⟨some ⟨g, 0, none⟩, 0, by rw [HM.out]; rfl, by rw [HM.out]; omega, by omega, fun hn => absurd hn (by rw [HM.out]; omega), hB⟩
    · go_wp2_with fail
      go_ret
      refine (?_ : RdS w (namesOf s) _ _)
      rw [HN.out]
      exact ⟨some ⟨g, 1, none⟩, cap - 1, by rw [HM.out]; rfl, by rw [HM.out]; omega, by omega, by simpa using HR.out, hB⟩

theorem pathB_head {s : ByteArray} (h : s ≠ ⟨#[47]⟩) (h0 : s.data.toList.head? ≠ some 47) : pathB s = false := by simp [pathB, h, h0]
theorem pathB_names {s : ByteArray} (h : s ≠ ⟨#[47]⟩) (h0 : s.data.toList.head? = some 47) : pathB s = pathOfB (namesOf s) := by simp [pathB, h, h0]
theorem head_at {s : ByteArray} (h : 0 < s.size) : s.data.toList.head? = some s[0] := by
  have h' : 0 < s.data.toList.length := by rw [size_data]; exact h
  rw [List.head?_eq_getElem?, List.getElem?_eq_getElem h']
  rfl
theorem namesOf_len {s : ByteArray} : (namesOf s).length ≤ s.size + 1 := by
  unfold namesOf
  split
  · simp
  · have h := cutL_slash 47 s.data.toList
    have h2 : ∀ (xs : List (List UInt8)), xs.length ≤ (slash 47 xs).length := fun xs => by
      induction xs with
      | nil => simp
      | cons x r ih =>
        have e : slash 47 (x :: r) = 47 :: (x ++ slash 47 r) := by simp [slash]
        rw [e]
        simp only [List.length_cons, List.length_append]
        omega
    have h3 := h2 (cutL 47 s.data.toList)
    rw [h] at h3
    simp only [List.length_cons, size_data] at h3
    rw [List.length_drop, cutB, List.length_map]
    omega
theorem namesOf_each {s : ByteArray} : ∀ x ∈ namesOf s, x.size ≤ s.size + 1 := by
  unfold namesOf
  split
  · intro x hx; simp at hx
  · intro x hx
    have hx := List.mem_of_mem_drop hx
    obtain ⟨y, hy, rfl⟩ := List.mem_map.1 hx
    have h := cutL_slash 47 s.data.toList
    have h2 : ∀ (xs : List (List UInt8)), y ∈ xs → y.length ≤ (slash 47 xs).length := fun xs => by
      induction xs with
      | nil => intro h; cases h
      | cons x r ih =>
        intro h
        have e : slash 47 (x :: r) = 47 :: (x ++ slash 47 r) := by simp [slash]
        rw [e]
        simp only [List.length_cons, List.length_append]
        rcases List.mem_cons.1 h with rfl | h
        · omega
        · have := ih h; omega
    have h3 := h2 _ hy
    rw [h] at h3
    rw [ofL_size]
    simp only [List.length_cons, size_data] at h3
    omega

set_option maxHeartbeats 2000000 in
theorem specPathOk_any (w : World) (s : ByteArray) (hs : s.size ≤ 1048576) :
    Calls Tryd.prog 76 #[.string s] w fun e w' => e = .returned (.bool (pathB s)) ∧ Below w.heap.size w w' := by
  by_cases h : s = ⟨#[47]⟩
  · subst h
    have e : pathB ⟨#[47]⟩ = true := root_path
    rw [e]
    go_enter Tryd.func76, Tryd.ntmps76
    go_wp2_with fail
    go_ret
    exact ⟨rfl, Below.refl _ _⟩
  · have e1 := ne_root h
    by_cases h0 : s.size = 0
    · have E := Lib.hid (pathB_head h (by
        have : s.data.toList = [] := List.length_eq_zero_iff.1 (by rw [size_data]; exact h0)
        rw [this]; simp))
      have e2 : s.toList.isEmpty = true := by
        have : s.data.toList = [] := List.length_eq_zero_iff.1 (by rw [size_data]; exact h0)
        rw [Lib.toList_data, this]; rfl
      go_enter Tryd.func76, Tryd.ntmps76
      go_wp2_with fail
      go_ret
      exact ⟨ret_bool E.out.symm, Below.refl _ _⟩
    · have hpos : 0 < s.size := by omega
      have e2 : s.toList.isEmpty = false := by
        cases he : s.toList
        · rw [Lib.toList_data] at he
          have : s.size = 0 := by rw [← size_data, he]; rfl
          omega
        · rfl
      by_cases hc : s[0] = 47
      · have E := Lib.hid (pathB_names h (by rw [head_at hpos, hc]))
        have e3 : (((s[0]).toNat : Int) == 47) = true := by rw [hc]; rfl
        have e4 : (((s[0]).toNat : Int) != 47) = false := by rw [hc]; rfl
        have HN := Lib.hid (l14Names_any w s hs)
        have HL := Lib.hid (namesOf_len (s := s))
        have HE := Lib.hid (namesOf_each (s := s))
        go_enter Tryd.func76, Tryd.ntmps76
        go_wp2_with fail
        refine Calls.mono HN.out ?_
        rintro e w1 ⟨A, cap, rfl, hcp, hcm, hrd, hB⟩
        have HR := Lib.hid hrd
        have HB := Lib.hid hB
        clear hrd hB
        generalize namesOf s = xs at *
        go_wp2_with fail
        go_loopw [4] (fun i wr => ∃ k : Nat, k ≤ xs.length ∧ i = .int .i64 k ∧ Hid (∀ x ∈ xs.take k, nameB x = true) ∧ w1 = wr) (fun i _ => xs.length - (intOf i).toNat)
        case atStart => exact ⟨0, Nat.zero_le _, rfl, Lib.hid (fun x hx => by simp at hx), rfl⟩
        case round =>
          obtain ⟨k, hk, rfl, HN, rfl⟩ := hrel
          by_cases hlt : k < xs.length
          · obtain ⟨b, off, x, rfl, hb, he, c0⟩ := HR.out.str hlt
            have z1 : x.size ≤ 9223372036854775807 := by have := HE.out x (List.mem_of_getElem? he); omega
            by_cases hx : nameB x = true
            · have HN2 := Lib.hid (show ∀ x ∈ xs.take (k + 1), nameB x = true by
                rw [List.take_add_one, he]
                intro y hy
                rcases List.mem_append.1 hy with hy | hy
                · exact HN.out y hy
                · simp at hy; rw [hy]; exact hx)
              clear he
              have z3 : xs.length ≤ 1048577 := by have := HL.out; omega
              go_wp2_with (go_at_call 57; refine (specNameOk_any _ _ z1).mono ?_; rintro e w' ⟨rfl, rfl⟩)
              exact ⟨⟨k + 1, by omega, by go_num, HN2, by trivial⟩, by simp [intOf]; omega⟩
            · have hx' : nameB x = false := by simpa using hx
              have E1 := Lib.hid (pathOfB_cons xs he hx')
              clear he hx
              go_wp2_with (go_at_call 57; refine (specNameOk_any _ _ z1).mono ?_; rintro e w' ⟨rfl, rfl⟩)
              go_ret
              exact ⟨ret_bool (by rw [E.out, E1.out]), HB.out⟩
          · obtain rfl : k = xs.length := by omega
            have E1 := Lib.hid (show decide ((xs.length : Int) ≤ 4) = pathB s by
              rw [E.out, pathOfB]
              have : xs.all nameB = true := List.all_eq_true.2 (by have := HN.out; rwa [List.take_length] at this)
              rw [this, Bool.and_true]
              exact decide_eq_decide.2 (by omega))
            go_wp2_with fail
            go_ret
            exact ⟨ret_bool E1.out, HB.out⟩
      · have E := Lib.hid (pathB_head h (by rw [head_at hpos]; simpa using hc))
        have e3 : (((s[0]).toNat : Int) == 47) = false := by
          have : ¬ (s[0]).toNat = 47 := fun e => hc (UInt8.toNat_inj.1 e)
          simp
          omega
        have e4 : (((s[0]).toNat : Int) != 47) = true := by simp [bne, e3]
        go_enter Tryd.func76, Tryd.ntmps76
        go_wp2_with fail
        go_ret
        exact ⟨ret_bool E.out.symm, Below.refl _ _⟩

/-- Names and whether there are. -/
def NamesPost (w : World) (xs : List ByteArray) (b : Bool) (e : Ending) (w' : World) : Prop := ∃ v, e = .returned (.tuple #[v, .bool b]) ∧ Own encS 1 9 w.heap.size w' v xs ∧ Below w.heap.size w w'

end Go.Proofs.YtjalboplilolkaaDoor
