/- EntriesAdd, the program's: the call. -/
import Derived.Test.YtmbjioboepbjnaaEntAdd3
import Derived.Test.YtmbjioboepbjnaaEntApart
namespace Go.Proofs.Ytmbjioboepbjnaa
open Go.RowKit
set_option linter.unusedVariables false
set_option linter.unusedSimpArgs false

/-- Clone, of whatever a slice reads as. -/
theorem clone_all (w : World) (A : Option Addr) (cap : Nat) (es : List Ent) (h : RdT encE 2 w A es) (hn : es.length ≤ 1048576) (hA : ∀ a, A = some a → a.spot = none) :
    Calls Try.prog 20 #[.slice A es.length cap] w (OwnPost w es) := by
  cases A with
  | none =>
    have h0 : es = [] := by
      rcases Nat.eq_zero_or_pos es.length with h0 | h0
      · exact List.length_eq_zero_iff.1 h0
      · obtain ⟨b, off, e, _⟩ := h h0
        cases e
    subst h0
    refine (clone_nil w cap).mono ?_
    rintro e w' ⟨rfl, rfl⟩
    exact ⟨_, rfl, Own.nil, Below.refl _ _⟩
  | some a =>
    obtain ⟨b, off, sp⟩ := a
    have := hA _ rfl
    dsimp only at this
    subst this
    exact clone_any w b off cap es h hn

set_option maxHeartbeats 2000000 in
theorem add_any (w : World) (A : Option Addr) (cap : Nat) (es : List Ent) (x : Ent) (h : RdT encE 2 w A es) (hc : es.length ≤ cap) (hm : cap ≤ 9223372036854775807) (hn : es.length ≤ 1048576) (hz : ∀ e ∈ es, e.name.size ≤ 9223372036854775807) (hx : x.name.size ≤ 9223372036854775807) (hA : ∀ a, A = some a → a.spot = none) :
    Calls Try.prog 6 #[.slice A es.length cap, .string x.name, .int .i64 x.id] w (LessPost w (addB es x) (addL es x)) := by
  have HR := Lib.hid h
  have HZ := Lib.hid hz
  have HN := Lib.hid (fun w => nameOk_any x.name w hx)
  clear h hz
  go_enter Try.func6, Try.ntmps6
  go_wp2_with fail
  refine Calls.mono (entryAt_any w A cap es x.name HR.out hc hm hn) ?_
  rintro e w1 ⟨i, b, rfl, hf, hB⟩
  have HB := Lib.hid hB
  clear hB
  go_wp2_with fail
  refine Calls.mono (entriesOk_any w1 A cap es (HR.out.below HB.out) hc hm HZ.out) ?_
  rintro e w2 ⟨rfl, hB⟩
  have HB2 := Lib.hid (below_below HB.out hB)
  clear hB HB
  have nope : ∀ (w' : World), Below w.heap.size w w' → addB es x = false → LessPost w (addB es x) (addL es x) (.returned (.tuple #[.slice none 0 0, .bool false])) w' := fun w' hB e => by
    rw [add_bad e, e]
    exact ⟨_, rfl, Own.nil, hB⟩
  have NO := Lib.hid nope
  clear nope
  by_cases hok : entriesOkB es = true
  · cases hnm : nameB x.name
    · have E := Lib.hid (show addB es x = false by
        cases he : addB es x
        · rfl
        · simp only [addB, Bool.and_eq_true] at he
          have h1 : entriesOkB (addFrom x es false) = true := he.2.2
          have h2 : atOf es x.name = -1 := by
            rcases atOf_spec es x.name with ⟨h, _⟩ | ⟨k, e, h, _⟩
            · exact h
            · rw [h] at he; simp at he; omega
          rcases found_at hf (ok_sorted hok) with ⟨rfl, ha⟩ | ⟨rfl, ha, _⟩
          · rw [(add_at hok hf ha).1, (add_at hok hf ha).2, hnm] at h1
            cases h1
          · rw [ha] at h2; omega)
      rw [hnm] at HN
      clear hf
      go_wp2_with fail
      refine Calls.mono (HN.out w2) ?_
      rintro e w3 ⟨rfl, hB⟩
      have HB3 := Lib.hid (below_below HB2.out hB)
      clear hB HB2
      go_wp2_with fail
      go_ret2
      exact NO.out _ HB3.out E.out
    · rw [hnm] at HN
      rcases found_at hf (ok_sorted hok) with ⟨rfl, ha⟩ | ⟨rfl, ha, d, hd, hdn⟩
      · obtain ⟨e1, e2⟩ := add_ask hok hf ha
        rw [hnm] at e1
        have HE1 := Lib.hid e1
        have HE2 := Lib.hid e2
        have hil : i ≤ es.length := hf.1
        clear hf ha e1 e2
        have HW := Lib.hid (fun w => within_any x.id 1 15 w)
        cases hin : inB x.id 1 15
        · have E := Lib.hid (show addB es x = false by rw [HE1.out, hin]; rfl)
          rw [hin] at HW
          go_wp2_with fail
          refine Calls.mono (HN.out w2) ?_
          rintro e w3 ⟨rfl, hB⟩
          have HB3 := Lib.hid (below_below HB2.out hB)
          clear hB HB2
          go_wp2_with fail
          refine Calls.mono (HW.out _) ?_
          rintro e w4 ⟨rfl, rfl⟩
          go_wp2_with fail
          go_ret2
          exact NO.out _ HB3.out E.out
        · rw [hin] at HW
          by_cases hlen : es.length < 12
          · have E := Lib.hid (show addB es x = true by rw [HE1.out, hin]; simp [hlen])
            have E2 := Lib.hid (HE2.out E.out)
            have q1 : ¬ (es.length : Int) = 12 := by omega
            have q2 : ((es.length : Int) == 12) = false := by simpa using q1
            go_wp2_with fail
            refine Calls.mono (HN.out w2) ?_
            rintro e w3 ⟨rfl, hB⟩
            have HB3 := Lib.hid (below_below HB2.out hB)
            have HR3 := Lib.hid (HR.out.below HB3.out)
            clear hB HB2
            go_wp2_with fail
            refine Calls.mono (HW.out _) ?_
            rintro e w4 ⟨rfl, rfl⟩
            go_wp2_with fail
            refine Calls.mono (clone_all w3 A cap es HR3.out hn hA) ?_
            rintro e w5 ⟨v, rfl, hO, hB5⟩
            have HO := Lib.hid hO
            have HB5 := Lib.hid (below_below HB3.out hB5)
            have hs5 := hB5.size
            have hne : v.ownBlock ≠ some w5.heap.size := fun e => by have := (own_above hO _ (mem_exOf e)).2; omega
            clear hO hB5
            go_wp2_with fail
            refine Calls.mono (insert_any w3.heap.size _ v w5.heap.size es x i (own_alloc HO.out _) (heap_alloc_new _ _) hne hil hn (by simp; omega)) ?_
            rintro e w6 ⟨u, rfl, hO6, hB6⟩
            have HO6 := Lib.hid hO6
            have HB6 := Lib.hid (show Below w.heap.size w w6 from (below_alloc HB5.out _).trans (hB6.mono HB3.out.size))
            clear hO6 hB6
            go_wp2_with fail
            go_ret2
            refine (?_ : LessPost w (addB es x) (addL es x) _ _)
            rw [E2.out, E.out]
            exact ⟨_, rfl, HO6.out.more HB3.out.size, HB6.out⟩
          · have E := Lib.hid (show addB es x = false by rw [HE1.out, hin]; simp [hlen])
            have hl12 : es.length = 12 := by have := ok_length hok; omega
            have q2 : ((es.length : Int) == 12) = true := by rw [hl12]; rfl
            go_wp2_with fail
            refine Calls.mono (HN.out w2) ?_
            rintro e w3 ⟨rfl, hB⟩
            have HB3 := Lib.hid (below_below HB2.out hB)
            clear hB HB2
            go_wp2_with fail
            refine Calls.mono (HW.out _) ?_
            rintro e w4 ⟨rfl, rfl⟩
            go_wp2_with fail
            go_ret2
            exact NO.out _ HB3.out E.out
      · have E := Lib.hid (show addB es x = false by
          have hni : ¬ (atOf es x.name < 0) := by rw [ha]; omega
          simp [addB, hni])
        clear hf ha hd hdn
        go_wp2_with fail
        refine Calls.mono (HN.out w2) ?_
        rintro e w3 ⟨rfl, hB⟩
        have HB3 := Lib.hid (below_below HB2.out hB)
        clear hB HB2
        go_wp2_with fail
        go_ret2
        exact NO.out _ HB3.out E.out
  · have hok' : entriesOkB es = false := by simpa using hok
    have E := Lib.hid (show addB es x = false by simp [addB, hok'])
    clear hok
    go_wp2_with fail
    go_ret2
    exact NO.out _ HB2.out E.out

end Go.Proofs.Ytmbjioboepbjnaa
