/- Marking a list of entries, and whether the marks are still there. -/
import Derived.Test.YtjalboplilolkaaDoorEntHelp
import Derived.Test.YtjalboplilolkaaDoorMark
import Derived.Test.YtjalboplilolkaaDoorQuiet
namespace Go.Proofs.YtjalboplilolkaaDoor
open Go.RowKit
set_option linter.unusedVariables false
set_option linter.unusedSimpArgs false

/-- The marks from k on. -/
def markE (k n : Nat) : List Ent := (List.range n).map fun i => ⟨markS (k + 2 * i), ((k + 2 * i + 1 : Nat) : Int)⟩
theorem markE_length (k n : Nat) : (markE k n).length = n := by simp [markE]
theorem markE_get (k n i : Nat) (h : i < n) : (markE k n)[i]? = some ⟨markS (k + 2 * i), ((k + 2 * i + 1 : Nat) : Int)⟩ := by simp [markE, h]

set_option maxHeartbeats 2000000 in
theorem heldEntryS_any (w : World) (A : Option Addr) (cap n k : Nat) (h : RdT encE 2 w A (markE k n)) (hc : n ≤ cap) (hn : n ≤ 1048576) (hk1 : 1 ≤ k) (hk2 : k ≤ 16) :
    Calls Tryd.prog 25 #[.slice A n cap, .int .i64 k] w fun e w' => e = .returned (.int .i64 ((k + 2 * n : Nat) : Int)) ∧ Below w.heap.size w w' := by
  have HR := Lib.hid h
  clear h
  go_enter Tryd.func25, Tryd.ntmps25
  go_wp2_with fail
  go_loopw [1, 5] (fun x y wr => ∃ (i K : Nat), i ≤ n ∧ K = k + 2 * i ∧ x = .int .i64 K ∧ y = .int .i64 i ∧ Hid (Below w.heap.size w wr)) (fun x y _ => n - (intOf y).toNat)
  case atStart => exact ⟨0, k, Nat.zero_le _, by omega, rfl, rfl, Lib.hid (Below.refl _ _)⟩
  case round =>
    obtain ⟨i, K, hi, hK, rfl, rfl, HB⟩ := hrel
    have HK := Lib.hid hK
    clear hK
    by_cases hlt : i < n
    · obtain ⟨b, off, nm, id, rfl, hb, he, c0, c1⟩ := (HR.out.below HB.out).entry (k := i) (by rw [markE_length]; exact hlt)
      rw [markE_get _ _ _ hlt, ← HK.out] at he
      cases he
      have HT := Lib.hid (fun w => markText_any K w (by have := HK.out; omega) (by have := HK.out; omega))
      have hKb : (K : Int) ≤ 9223372036854775806 := by have := HK.out; omega
      go_wp2_with fail
      refine wp_quiet_b (by kernel_rfl) (by kernel_rfl) (fun hgrow => ?_)
      repeat (go_big_quiet_step ((go_at_call 60; exact quiet_b (HT.out _))))
      refine wpQuiet_nil ?_
      intro w2 hww2
      replace hww2 := below_of_regrown hww2
      clear hgrow
      obtain ⟨c2, f2⟩ := bcell hww2
      have k1 : IntKind.i64.wrap ((K : Int) + 1) = (K : Int) + 1 := IntWalk.i64_in _ (by omega)
      have k2 : IntKind.i64.wrap ((K : Int) + 1 + 1) = (K : Int) + 1 + 1 := IntWalk.i64_in _ (by have := HK.out; omega)
      go_wp2_with fail
      go_roundw
      case rel => exact ⟨i + 1, K + 2, by omega, by have := HK.out; omega, by go_num, by go_num, Lib.hid (below_below HB.out hww2)⟩
      case measure => simp [intOf]; omega
    · obtain rfl : i = n := by omega
      have hKe := HK.out
      subst hKe
      go_wp2_with fail
      go_ret
      exact ⟨rfl, HB.out⟩

/-- The block of a row of the call's own, as a list. -/
def exOf (v : Value) : List Nat := match v.ownBlock with | some b => [b] | none => []

def MarkPost (base k n : Nat) (w : World) (v : Value) (e : Ending) (w' : World) : Prop := e = .returned (.int .i64 ((k + 2 * n : Nat) : Int)) ∧ Own encE 2 76 base w' v (markE k n) ∧ Kp (exOf v) w w'

theorem markE_mix (k n i : Nat) (es : List Ent) (hn : es.length = n) (hi : i < n) : ((markE k n).take i ++ es.drop i).set i ⟨markS (k + 2 * i), ((k + 2 * i + 1 : Nat) : Int)⟩ = (markE k n).take (i + 1) ++ es.drop (i + 1) := by
  apply List.ext_getElem?
  intro j
  have h1 : ((markE k n).take i).length = i := by rw [List.length_take, markE_length]; omega
  have h2 : ((markE k n).take (i + 1)).length = i + 1 := by rw [List.length_take, markE_length]; omega
  by_cases hj : j < i
  · rw [List.getElem?_set_ne (by omega), List.getElem?_append_left (by omega), List.getElem?_append_left (by omega), List.getElem?_take, List.getElem?_take, if_pos hj, if_pos (by omega)]
  · by_cases hj2 : j = i
    · subst hj2
      rw [List.getElem?_set_self (by simp [markE_length]; omega), List.getElem?_append_left (by omega), List.getElem?_take, if_pos (by omega), markE_get _ _ _ hi]
    · rw [List.getElem?_set_ne (by omega), List.getElem?_append_right (by omega), List.getElem?_append_right (by omega), h1, h2, List.getElem?_drop, List.getElem?_drop]
      congr 1
      omega

set_option maxHeartbeats 2000000 in
theorem markEntryS_any (base : Nat) (w : World) (g cap k : Nat) (es : List Ent) (h : Own encE 2 76 base w (.slice (some ⟨g, 0, none⟩) es.length cap) es) (hn : es.length ≤ 1048576) (hk1 : 1 ≤ k) (hk2 : k ≤ 16) (hg : g < w.heap.size) :
    Calls Tryd.prog 24 #[.slice (some ⟨g, 0, none⟩) es.length cap, .int .i64 k] w (MarkPost base k es.length w (.slice (some ⟨g, 0, none⟩) es.length cap)) := by
  have HO := Lib.hid (show w.ownsRow base 76 2 (.slice (some ⟨g, 0, none⟩) es.length cap) es.length (cellsOf encE 2 es) from h)
  obtain ⟨A, cap', hv, hcc, hcm, _, _⟩ := h.form
  cases hv
  clear h
  go_enter Tryd.func24, Tryd.ntmps24
  go_wp2_with fail
  go_loopw [1, 5] (fun x y wr => ∃ (i K : Nat), i ≤ es.length ∧ K = k + 2 * i ∧ x = .int .i64 K ∧ y = .int .i64 i ∧ Hid (wr.ownsRow base 76 2 (.slice (some ⟨g, 0, none⟩) es.length cap) es.length (cellsOf encE 2 ((markE k es.length).take i ++ es.drop i))) ∧ Hid (Kp [g] w wr)) (fun x y _ => es.length - (intOf y).toNat)
  case atStart => exact ⟨0, k, Nat.zero_le _, by omega, rfl, rfl, by simpa using HO, Lib.hid (Kp.refl _ _)⟩
  case round =>
    obtain ⟨i, K, hi, hK, rfl, rfl, HW, HB⟩ := hrel
    have HK := Lib.hid hK
    clear hK
    by_cases hlt : i < es.length
    · have HT := Lib.hid (fun w => markText_any K w (by have := HK.out; omega) (by have := HK.out; omega))
      go_wp2_with fail
      refine Calls.mono (HT.out _) ?_
      rintro e w2 ⟨rfl, hB2⟩
      have hO2 := ownsRow_below HW.out hB2
      have hl : (cellsOf encE 2 ((markE k es.length).take i ++ es.drop i)).length = es.length * 2 := hO2.1
      obtain ⟨v0, hv0⟩ : ∃ v0, w2.cell? ⟨g, i * 2, none⟩ = some v0 := ⟨_, (hO2.cellAt (i * 2) (by omega)).trans (List.getElem?_eq_getElem (by omega))⟩
      obtain ⟨v1, hv1⟩ : ∃ v1, w2.cell? ⟨g, i * 2 + 1, none⟩ = some v1 := ⟨_, (hO2.cellAt (i * 2 + 1) (by omega)).trans (List.getElem?_eq_getElem (by omega))⟩
      have hf0 := hO2.frozenAt (i * 2)
      have hf1 := hO2.frozenAt (i * 2 + 1)
      have HO2 := Lib.hid hO2
      have HB2 := Lib.hid (HB.out.trans ((Kp.of_below hB2).all [g]))
      clear hO2 hl hB2
      have k1 : IntKind.i64.wrap ((K : Int) + 1) = (K : Int) + 1 := IntWalk.i64_in _ (by have := HK.out; omega)
      have k2 : IntKind.i64.wrap ((K : Int) + 1 + 1) = (K : Int) + 1 + 1 := IntWalk.i64_in _ (by have := HK.out; omega)
      go_wp2_with fail
      go_roundw
      case rel =>
        refine ⟨i + 1, K + 2, by omega, by have := HK.out; omega, by go_num, by go_num, ?_, ?_⟩
        · have h1 := ((HO2.out.stored (i * 2) (.string (markS K))).1.stored (i * 2 + 1) (.int .i64 ((K : Int) + 1))).1
          have e := cellsOf_set2 (enc := encE) ((markE k es.length).take i ++ es.drop i) i ⟨markS K, (K : Int) + 1⟩ (by simp [markE_length]; omega)
          have e2 := markE_mix k es.length i es rfl hlt
          rw [← HK.out] at e2
          rw [show (⟨markS K, ((K + 1 : Nat) : Int)⟩ : Ent) = ⟨markS K, (K : Int) + 1⟩ from rfl] at e2
          rw [e2] at e
          rw [← e]
          exact h1
        · exact Lib.hid ((HB2.out.setCell (.inl (by simp)) _).setCell (.inl (by simp)) _)
      case measure => simp [intOf]; omega
    · obtain rfl : i = es.length := by omega
      have hKe := HK.out
      subst hKe
      have HX := Lib.hid (show Own encE 2 76 base wr (.slice (some ⟨g, 0, none⟩) es.length cap) (markE k es.length) by
        have := HW.out
        rw [List.take_of_length_le (by rw [markE_length]; exact Nat.le_refl _), List.drop_of_length_le (Nat.le_refl _), List.append_nil] at this
        unfold Own
        rw [markE_length]
        exact this)
      go_wp2_with fail
      go_ret
      exact ⟨rfl, HX.out, HB.out⟩

end Go.Proofs.YtjalboplilolkaaDoor
