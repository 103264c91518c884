/- PathOf, the reference's. -/
import Derived.Test.YtanccfiiemlmeaaDoorPathLaws
import Derived.Test.YtanccfiiemlmeaaDoorStrS
namespace Go.Proofs.YtanccfiiemlmeaaDoor
open Go.RowKit
set_option linter.unusedVariables false
set_option linter.unusedSimpArgs false

theorem slashB_step {c : UInt8} {xs : List ByteArray} {k : Nat} {x : ByteArray} (h : xs[k]? = some x) : slashB c (xs.take k) ++ ⟨#[c]⟩ ++ x = slashB c (xs.take (k + 1)) := by
  rw [List.take_add_one, h]
  show _ = slashB c (xs.take k ++ [x])
  rw [slashB_snoc, ByteArray.append_assoc]
theorem slashB_size {c : UInt8} {xs : List ByteArray} (h : ∀ x ∈ xs, x.size ≤ 4) (hn : xs.length ≤ 4) (k : Nat) : (slashB c (xs.take k)).size ≤ 20 := by
  have h1 := slash_len c (xs.take k) (fun x hx => h x (List.mem_of_mem_take hx))
  have h2 : (xs.take k).length ≤ 4 := by rw [List.length_take]; omega
  rw [slashB, ofL_size]
  omega
theorem slashB_empty {c : UInt8} {xs : List ByteArray} (h : xs ≠ []) : slashB c xs ≠ ByteArray.empty := fun e => by
  cases xs with
  | nil => exact h rfl
  | cons x r =>
    have := congrArg (fun b : ByteArray => b.data.toList) e
    simp [slashB, ofL_data, slash] at this

set_option maxHeartbeats 1000000 in
theorem l14Of_any (w : World) (A : Option Addr) (cap : Nat) (xs : List ByteArray) (h : RdT encS 1 w A xs) (hc : xs.length ≤ cap) (hm : cap ≤ 9223372036854775807) (hz : ∀ x ∈ xs, x.size ≤ 4) (hn : xs.length ≤ 4) :
    Calls Tryd.prog 60 #[.slice A xs.length cap] w fun e w' => e = .returned (.string (pathT xs)) ∧ Below w.heap.size w w' := by
  have HR := Lib.hid h
  have HZ := Lib.hid hz
  have HS := Lib.hid (slashB_size (c := 47) hz hn)
  clear h hz
  go_enter Tryd.func60, Tryd.ntmps60
  go_wp2_with fail
  go_loopw [3, 4] (fun o i wr => ∃ k : Nat, k ≤ xs.length ∧ i = .int .i64 k ∧ o = .string (slashB 47 (xs.take k)) ∧ Hid (Below w.heap.size w wr)) (fun _ i _ => xs.length - (intOf i).toNat)
  case atStart => exact ⟨0, Nat.zero_le _, rfl, rfl, Lib.hid (Below.refl _ _)⟩
  case round =>
    obtain ⟨k, hk, rfl, rfl, HB⟩ := hrel
    by_cases hlt : k < xs.length
    · obtain ⟨b, off, s, rfl, hb, he, c0⟩ := (HR.out.below HB.out).str hlt
      have HT := Lib.hid (slashB_step (c := 47) he)
      have z1 := HS.out k
      have z2 := HZ.out s (List.mem_of_getElem? he)
      have q1 : ¬ 9223372036854775807 < (slashB 47 (xs.take k)).size + (⟨#[47]⟩ : ByteArray).size := by show ¬ _ < _ + 1; omega
      have q2 : ¬ 9223372036854775807 < (slashB 47 (xs.take k) ++ ⟨#[47]⟩ : ByteArray).size + s.size := by rw [ByteArray.size_append]; show ¬ _ < _ + 1 + _; omega
      clear he
      generalize slashB 47 (xs.take k) = o at *
      go_wp2_with fail
      exact ⟨⟨k + 1, by omega, by go_num, by rw [← HT.out], HB⟩, by simp [intOf]; omega⟩
    · obtain rfl : k = xs.length := by omega
      rw [List.take_length]
      by_cases hx : xs = []
      · have HE := Lib.hid (show (⟨#[47]⟩ : ByteArray) = pathT xs by simp [pathT, hx])
        have e0 : slashB 47 xs = ⟨#[]⟩ := by rw [hx]; rfl
        rw [e0]
        go_wp2_with fail
        go_ret
        exact ⟨ret_str HE.out, HB.out⟩
      · have HE := Lib.hid (show slashB 47 xs = pathT xs by simp [pathT, hx])
        have e0 : (slashB 47 xs).toList = [] → False := fun e => slashB_empty hx (by
          apply ofL_ext
          rw [← Lib.toList_data, e]
          rfl)
        have e1 : (slashB 47 xs).toList.isEmpty = false := by
          cases he : (slashB 47 xs).toList
          · exact (e0 he).elim
          · rfl
        generalize slashB 47 xs = o at *
        go_wp2_with fail
        go_ret
        exact ⟨ret_str HE.out, HB.out⟩

theorem pathOfB_cons {x : ByteArray} {k : Nat} (xs : List ByteArray) (h : xs[k]? = some x) (hn : nameB x = false) : pathOfB xs = false := by
  cases h' : pathOfB xs
  · rfl
  · have := (all_nameB h').2 x (List.mem_of_getElem? h)
    rw [hn] at this
    cases this

def Of2 (w : World) (b : Bool) (s : ByteArray) (e : Ending) (w' : World) : Prop := e = .returned (.tuple #[.string s, .bool b]) ∧ Below w.heap.size w w'

set_option maxHeartbeats 1000000 in
theorem specPathOf_any (w : World) (A : Option Addr) (cap : Nat) (xs : List ByteArray) (h : RdT encS 1 w A xs) (hc : xs.length ≤ cap) (hm : cap ≤ 9223372036854775807) (hz : ∀ x ∈ xs, x.size ≤ 9223372036854775807) :
    Calls Tryd.prog 29 #[.slice A xs.length cap] w (Of2 w (pathOfB xs) (pathOfT xs)) := by
  have HR := Lib.hid h
  have HZ := Lib.hid hz
  clear h hz
  by_cases hn : xs.length ≤ 4
  · go_enter Tryd.func29, Tryd.ntmps29
    go_wp2_with fail
    go_loopw [4] (fun i wr => ∃ k : Nat, k ≤ xs.length ∧ i = .int .i64 k ∧ Hid (∀ x ∈ xs.take k, nameB x = true) ∧ w = wr) (fun i _ => xs.length - (intOf i).toNat)
    case atStart => exact ⟨0, Nat.zero_le _, rfl, Lib.hid (fun x hx => by simp at hx), rfl⟩
    case round =>
      obtain ⟨k, hk, rfl, HN, rfl⟩ := hrel
      by_cases hlt : k < xs.length
      · obtain ⟨b, off, s, rfl, hb, he, c0⟩ := HR.out.str hlt
        have z1 := HZ.out s (List.mem_of_getElem? he)
        by_cases hs : nameB s = true
        · have HN2 := Lib.hid (show ∀ x ∈ xs.take (k + 1), nameB x = true by
            rw [List.take_add_one, he]
            intro x hx
            rcases List.mem_append.1 hx with hx | hx
            · exact HN.out x hx
            · simp at hx; rw [hx]; exact hs)
          clear he
          go_wp2_with (go_at_call 24; refine (specNameOk_any _ _ z1).mono ?_; rintro e w' ⟨rfl, rfl⟩)
          exact ⟨⟨k + 1, by omega, by go_num, HN2, by trivial⟩, by simp [intOf]; omega⟩
        · have hs' : nameB s = false := by simpa using hs
          have E := Lib.hid (pathOfB_cons xs he hs')
          have E2 := Lib.hid (show pathOfT xs = ⟨#[]⟩ by rw [pathOfT, E.out]; rfl)
          clear he hs
          go_wp2_with (go_at_call 24; refine (specNameOk_any _ _ z1).mono ?_; rintro e w' ⟨rfl, rfl⟩)
          go_ret2
          refine (?_ : Of2 w (pathOfB xs) (pathOfT xs) _ _)
          rw [E.out, E2.out]
          exact ⟨rfl, Below.refl _ _⟩
      · obtain rfl : k = xs.length := by omega
        have HN2 := Lib.hid (show ∀ x ∈ xs, nameB x = true by have := HN.out; rwa [List.take_length] at this)
        have E := Lib.hid (show pathOfB xs = true from pathOfB_mk hn HN2.out)
        have E2 := Lib.hid (show pathOfT xs = pathT xs by rw [pathOfT, E.out]; rfl)
        have HL := Lib.hid (l14Of_any w A cap xs HR.out hc hm (fun x hx => (nameB_size (HN2.out x hx)).2) hn)
        go_wp2_with fail
        refine Calls.mono HL.out ?_
        rintro e w1 ⟨rfl, hB⟩
        go_wp2_with fail
        go_ret2
        refine (?_ : Of2 w (pathOfB xs) (pathOfT xs) _ _)
        rw [E.out, E2.out]
        exact ⟨rfl, hB⟩
  · have E := Lib.hid (show pathOfB xs = false by simp [pathOfB, hn])
    have E2 := Lib.hid (show pathOfT xs = ⟨#[]⟩ by rw [pathOfT, E.out]; rfl)
    go_enter Tryd.func29, Tryd.ntmps29
    go_wp2_with fail
    go_ret2
    refine (?_ : Of2 w (pathOfB xs) (pathOfT xs) _ _)
    rw [E.out, E2.out]
    exact ⟨rfl, Below.refl _ _⟩

end Go.Proofs.YtanccfiiemlmeaaDoor
