/- Paths, the program's functions. -/
import Derived.Test.YtjalboplilolkaaDoorPathOf
import Derived.Test.YtjalboplilolkaaDoorNameOk
namespace Go.Proofs.YtjalboplilolkaaDoor
open Go.RowKit
set_option linter.unusedVariables false
set_option linter.unusedSimpArgs false

theorem notName_any (s : ByteArray) (w : World) (hs : s.size ≤ 9223372036854775807) :
    Calls Tryd.prog 134 #[.string s] w fun e w' => e = .returned (.bool (!nameB s)) ∧ Below w.heap.size w w' := by
  have HN := Lib.hid (nameOk_any s w hs)
  cases hb : nameB s
  all_goals
    rw [hb] at HN
    go_enter Tryd.func134, Tryd.ntmps134
    go_wp2_with fail
    refine Calls.mono HN.out ?_
    rintro e w1 ⟨rfl, hB⟩
    have HB := Lib.hid hB
    clear hB
    go_wp2_with fail
    go_ret
    exact ⟨rfl, HB.out⟩

/-- Whether a number is one of a place. -/
def PlacePost (w : World) (b : Bool) (e : Ending) (w' : World) : Prop := ∃ z : Int, e = .returned (.int .i64 z) ∧ decide (0 ≤ z) = b ∧ -1 ≤ z ∧ Below w.heap.size w w'

set_option maxHeartbeats 1000000 in
theorem indexFunc_any (w : World) (A : Option Addr) (cap : Nat) (xs : List ByteArray) (h : RdT encS 1 w A xs) (hc : xs.length ≤ cap) (hm : cap ≤ 9223372036854775807) (hz : ∀ x ∈ xs, x.size ≤ 9223372036854775807) :
    Calls Tryd.prog 149 #[.slice A xs.length cap, .func (.func 134) #[] #[]] w (PlacePost w (!xs.all nameB)) := by
  have HR := Lib.hid h
  have HZ := Lib.hid hz
  clear h hz
  go_enter Tryd.func149, Tryd.ntmps149
  go_wp2_with fail
  go_loopw [8] (fun i wr => ∃ k : Nat, k ≤ xs.length ∧ i = .int .i64 k ∧ Hid (∀ x ∈ xs.take k, nameB x = true) ∧ Hid (Below w.heap.size w wr)) (fun i _ => xs.length - (intOf i).toNat)
  case atStart => exact ⟨0, Nat.zero_le _, rfl, Lib.hid (fun x hx => by simp at hx), Lib.hid (Below.refl _ _)⟩
  case round =>
    obtain ⟨k, hk, rfl, HN, HB⟩ := hrel
    by_cases hlt : k < xs.length
    · obtain ⟨b, off, x, rfl, hb, he, c0⟩ := (HR.out.below HB.out).str hlt
      have z1 := HZ.out x (List.mem_of_getElem? he)
      by_cases hx : nameB x = true
      · have HN2 := Lib.hid (show ∀ x ∈ xs.take (k + 1), nameB x = true by
          rw [List.take_add_one, he]
          intro y hy
          rcases List.mem_append.1 hy with hy | hy
          · exact HN.out y hy
          · simp at hy; rw [hy]; exact hx)
        have HC := Lib.hid (fun w => notName_any x w z1)
        rw [hx] at HC
        clear he
        go_wp2_with fail
        refine Calls.mono (HC.out _) ?_
        rintro e w1 ⟨rfl, hB⟩
        have HB2 := Lib.hid (below_below HB.out hB)
        clear hB
        go_wp2_with fail
        exact ⟨⟨k + 1, by omega, by go_num, HN2, HB2⟩, by simp [intOf]; omega⟩
      · have hx' : nameB x = false := by simpa using hx
        have HA := Lib.hid (show (!xs.all nameB) = true by
          cases h : xs.all nameB
          · rfl
          · have := List.all_eq_true.1 h x (List.mem_of_getElem? he)
            rw [hx'] at this; cases this)
        have HC := Lib.hid (fun w => notName_any x w z1)
        rw [hx'] at HC
        clear he hx
        go_wp2_with fail
        refine Calls.mono (HC.out _) ?_
        rintro e w1 ⟨rfl, hB⟩
        have HB2 := Lib.hid (below_below HB.out hB)
        clear hB
        go_wp2_with fail
        go_ret
        refine (?_ : PlacePost w (!xs.all nameB) _ _)
        rw [HA.out]
        exact ⟨k, rfl, by simp, by omega, HB2.out⟩
    · obtain rfl : k = xs.length := by omega
      have HA := Lib.hid (show (!xs.all nameB) = false by
        have : xs.all nameB = true := List.all_eq_true.2 (by have := HN.out; rwa [List.take_length] at this)
        rw [this]; rfl)
      go_wp2_with fail
      go_ret
      refine (?_ : PlacePost w (!xs.all nameB) _ _)
      rw [HA.out]
      exact ⟨-1, rfl, by decide, by omega, HB.out⟩

theorem containsFunc_any (w : World) (A : Option Addr) (cap : Nat) (xs : List ByteArray) (h : RdT encS 1 w A xs) (hc : xs.length ≤ cap) (hm : cap ≤ 9223372036854775807) (hz : ∀ x ∈ xs, x.size ≤ 9223372036854775807) :
    Calls Tryd.prog 133 #[.slice A xs.length cap, .func (.func 134) #[] #[]] w fun e w' => e = .returned (.bool (!xs.all nameB)) ∧ Below w.heap.size w w' := by
  have HI := Lib.hid (indexFunc_any w A cap xs h hc hm hz)
  clear h hz
  go_enter Tryd.func133, Tryd.ntmps133
  go_wp2_with fail
  refine Calls.mono HI.out ?_
  rintro e w1 ⟨z, rfl, hz, h1, hB⟩
  have HB := Lib.hid hB
  have HZ := Lib.hid hz
  clear hB hz
  go_wp2_with fail
  go_ret
  exact ⟨ret_bool HZ.out, HB.out⟩

set_option maxHeartbeats 1000000 in
theorem pathText_any (w : World) (A : Option Addr) (cap : Nat) (xs : List ByteArray) (h : RdT encS 1 w A xs) (hc : xs.length ≤ cap) (hm : cap ≤ 9223372036854775807) (hz : ∀ x ∈ xs, x.size ≤ 4) (hn : xs.length ≤ 4) :
    Calls Tryd.prog 135 #[.slice A xs.length cap] w fun e w' => e = .returned (.string (pathT xs)) ∧ Below w.heap.size w w' := by
  have HT := Lib.hid (pathT_join xs)
  have hlen : (Lib.join (xs.map (·.data.toList)) [47]).length ≤ 20 := by
    have h1 := congrArg ByteArray.size HT.out
    rw [ByteArray.size_append, ofL_size] at h1
    have h2 : (pathT xs).size ≤ 20 := by
      unfold pathT
      split
      · decide
      · have := slashB_size (c := 47) hz hn xs.length
        rwa [List.take_length] at this
    have h3 : (⟨#[47]⟩ : ByteArray).size = 1 := rfl
    omega
  have HJ : Hid (Calls Tryd.prog 116 #[.slice A xs.length cap, .string ⟨#[47]⟩] w fun e w' => e = .returned (.string (ofL (Lib.join (xs.map (·.data.toList)) [47]))) ∧ Below w.heap.size w w') := by
    rcases Nat.eq_zero_or_pos xs.length with h0 | h0
    · have hx : xs = [] := List.length_eq_zero_iff.1 h0
      subst hx
      exact (Tryd.strings_Join_none A cap ⟨#[47]⟩ w).mono fun e w' ⟨he, hw⟩ => ⟨he, by rw [hw]; exact Below.refl _ _⟩
    · obtain ⟨b, off, rfl, hb, hr⟩ := h h0
      exact Tryd.strings_Join b off cap xs ⟨#[47]⟩ w (fun j x hj => by have := hr j x hj 0 (by omega); simpa [encS] using this) hb (by omega) hc (by have e : (⟨#[47]⟩ : ByteArray).data.toList = [47] := rfl; rw [e]; omega)
  have q1 : ¬ 9223372036854775807 < (⟨#[47]⟩ : ByteArray).size + (ofL (Lib.join (xs.map (·.data.toList)) [47])).size := by
    rw [ofL_size]
    show ¬ _ < 1 + _
    omega
  clear h hz hlen
  generalize ofL (Lib.join (xs.map (·.data.toList)) [47]) = J at *
  go_enter Tryd.func135, Tryd.ntmps135
  go_wp2_with fail
  refine Calls.mono HJ.out ?_
  rintro e w1 ⟨rfl, hB⟩
  have HB := Lib.hid hB
  clear hB
  go_wp2_with fail
  go_ret
  exact ⟨ret_str HT.out, HB.out⟩

set_option maxHeartbeats 1000000 in
theorem pathOf_any (w : World) (A : Option Addr) (cap : Nat) (xs : List ByteArray) (h : RdT encS 1 w A xs) (hc : xs.length ≤ cap) (hm : cap ≤ 9223372036854775807) (hz : ∀ x ∈ xs, x.size ≤ 9223372036854775807) :
    Calls Tryd.prog 119 #[.slice A xs.length cap] w (Of2 w (pathOfB xs) (pathOfT xs)) := by
  have HR := Lib.hid h
  have HF := Lib.hid (containsFunc_any w A cap xs h hc hm hz)
  clear h hz
  by_cases hn : xs.length ≤ 4
  · cases hall : xs.all nameB
    · have E := Lib.hid (show pathOfB xs = false by simp [pathOfB, hall])
      have E2 := Lib.hid (show pathOfT xs = ⟨#[]⟩ by rw [pathOfT, E.out]; rfl)
      rw [hall] at HF
      go_enter Tryd.func119, Tryd.ntmps119
      go_wp2_with fail
      refine Calls.mono HF.out ?_
      rintro e w1 ⟨rfl, hB⟩
      have HB := Lib.hid hB
      clear hB
      go_wp2_with fail
      go_ret2
      refine (?_ : Of2 w (pathOfB xs) (pathOfT xs) _ _)
      rw [E.out, E2.out]
      exact ⟨rfl, HB.out⟩
    · have E := Lib.hid (show pathOfB xs = true by simp [pathOfB, hall, hn])
      have E2 := Lib.hid (show pathOfT xs = pathT xs by rw [pathOfT, E.out]; rfl)
      have HN := Lib.hid (fun x hx => (nameB_size (List.all_eq_true.1 hall x hx)).2)
      rw [hall] at HF
      go_enter Tryd.func119, Tryd.ntmps119
      go_wp2_with fail
      refine Calls.mono HF.out ?_
      rintro e w1 ⟨rfl, hB⟩
      have HB := Lib.hid hB
      clear hB
      go_wp2_with fail
      refine Calls.mono (pathText_any w1 A cap xs (HR.out.below HB.out) hc hm HN.out hn) ?_
      rintro e w2 ⟨rfl, hB⟩
      have HB2 := Lib.hid (below_below HB.out hB)
      clear hB
      go_wp2_with fail
      go_ret2
      refine (?_ : Of2 w (pathOfB xs) (pathOfT xs) _ _)
      rw [E.out, E2.out]
      exact ⟨rfl, HB2.out⟩
  · have E := Lib.hid (show pathOfB xs = false by simp [pathOfB, hn])
    have E2 := Lib.hid (show pathOfT xs = ⟨#[]⟩ by rw [pathOfT, E.out]; rfl)
    go_enter Tryd.func119, Tryd.ntmps119
    go_wp2_with fail
    go_ret2
    refine (?_ : Of2 w (pathOfB xs) (pathOfT xs) _ _)
    rw [E.out, E2.out]
    exact ⟨rfl, Below.refl _ _⟩

end Go.Proofs.YtjalboplilolkaaDoor
