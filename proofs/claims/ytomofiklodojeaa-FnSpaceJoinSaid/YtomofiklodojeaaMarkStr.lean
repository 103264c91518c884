/- Marking a list of texts, and whether the marks are still there. -/
import Derived.Test.YtomofiklodojeaaStrS
import Derived.Test.YtomofiklodojeaaMark
namespace Go.Proofs.Ytomofiklodojeaa
open Go.RowKit
set_option linter.unusedVariables false
set_option linter.unusedSimpArgs false

/-- The marks from k on. -/
def markT (k n : Nat) : List ByteArray := (List.range n).map fun i => markS (k + i)
theorem markT_length (k n : Nat) : (markT k n).length = n := by simp [markT]
theorem markT_get (k n i : Nat) (h : i < n) : (markT k n)[i]? = some (markS (k + i)) := by simp [markT, h]

set_option maxHeartbeats 2000000 in
theorem heldStringS_any (w : World) (A : Option Addr) (cap n k : Nat) (h : RdT encS 1 w A (markT k n)) (hc : n ≤ cap) (hn : n ≤ 1048576) (hk1 : 1 ≤ k) (hk2 : k ≤ 1048592) :
    Calls Try.prog 67 #[.slice A n cap, .int .i64 k] w fun e w' => e = .returned (.int .i64 ((k + n : Nat) : Int)) ∧ Below w.heap.size w w' := by
  have HR := Lib.hid h
  clear h
  go_enter Try.func67, Try.ntmps67
  go_wp2_with fail
  go_loopw [1, 5] (fun x y wr => ∃ (i K : Nat), i ≤ n ∧ K = k + i ∧ x = .int .i64 K ∧ y = .int .i64 i ∧ Hid (Below w.heap.size w wr)) (fun x y _ => n - (intOf y).toNat)
  case atStart => exact ⟨0, k, Nat.zero_le _, by omega, rfl, rfl, Lib.hid (Below.refl _ _)⟩
  case round =>
    obtain ⟨i, K, hi, hK, rfl, rfl, HB⟩ := hrel
    have HK := Lib.hid hK
    clear hK
    by_cases hlt : i < n
    · obtain ⟨b, off, s, rfl, hb, he, c0⟩ := (HR.out.below HB.out).str (k := i) (by rw [markT_length]; exact hlt)
      rw [markT_get _ _ _ hlt, ← HK.out] at he
      obtain rfl : markS K = s := Option.some.inj he
      have HT := Lib.hid (fun w => markText_any K w (by have := HK.out; omega) (by have := HK.out; omega))
      have hKb : (K : Int) ≤ 9223372036854775806 := by have := HK.out; omega
      clear he
      go_wp2_with fail
      refine wp_quiet_b (by kernel_rfl) (by kernel_rfl) (fun hgrow => ?_)
      repeat (go_big_quiet_step ((go_at_call 103; exact quiet_b (HT.out _))))
      refine wpQuiet_nil ?_
      intro w2 hww2
      replace hww2 := below_of_regrown hww2
      clear hgrow
      have k1 : IntKind.i64.wrap ((K : Int) + 1) = (K : Int) + 1 := IntWalk.i64_in _ (by omega)
      go_wp2_with fail
      go_roundw
      case rel => exact ⟨i + 1, K + 1, by omega, by have := HK.out; omega, by go_num, by go_num, Lib.hid (below_below HB.out hww2)⟩
      case measure => simp [intOf]; omega
    · obtain rfl : i = n := by omega
      have hKe := HK.out
      subst hKe
      go_wp2_with fail
      go_ret
      exact ⟨rfl, HB.out⟩

/-- The block of a row of the call's own, as a list. -/
def exOf' (v : Value) : List Nat := match v.ownBlock with | some b => [b] | none => []

def MarkPostS (base k n : Nat) (w : World) (v : Value) (e : Ending) (w' : World) : Prop := e = .returned (.int .i64 ((k + n : Nat) : Int)) ∧ Own encS 1 9 base w' v (markT k n) ∧ Kp (exOf' v) w w'

theorem markT_mix (k n i : Nat) (es : List ByteArray) (hn : es.length = n) (hi : i < n) : ((markT k n).take i ++ es.drop i).set i (markS (k + i)) = (markT k n).take (i + 1) ++ es.drop (i + 1) := by
  apply List.ext_getElem?
  intro j
  have h1 : ((markT k n).take i).length = i := by rw [List.length_take, markT_length]; omega
  have h2 : ((markT k n).take (i + 1)).length = i + 1 := by rw [List.length_take, markT_length]; omega
  by_cases hj : j < i
  · rw [List.getElem?_set_ne (by omega), List.getElem?_append_left (by omega), List.getElem?_append_left (by omega), List.getElem?_take, List.getElem?_take, if_pos hj, if_pos (by omega)]
  · by_cases hj2 : j = i
    · subst hj2
      rw [List.getElem?_set_self (by simp [markT_length]; omega), List.getElem?_append_left (by omega), List.getElem?_take, if_pos (by omega), markT_get _ _ _ hi]
    · rw [List.getElem?_set_ne (by omega), List.getElem?_append_right (by omega), List.getElem?_append_right (by omega), h1, h2, List.getElem?_drop, List.getElem?_drop]
      congr 1
      omega

set_option maxHeartbeats 2000000 in
theorem markStringS_at (base : Nat) (w : World) (g cap k : Nat) (es : List ByteArray) (h : Own encS 1 9 base w (.slice (some ⟨g, 0, none⟩) es.length cap) es) (hn : es.length ≤ 1048576) (hk1 : 1 ≤ k) (hk2 : k ≤ 1048592) (hg : g < w.heap.size) :
    Calls Try.prog 66 #[.slice (some ⟨g, 0, none⟩) es.length cap, .int .i64 k] w (MarkPostS base k es.length w (.slice (some ⟨g, 0, none⟩) es.length cap)) := by
  have HO := Lib.hid (show w.ownsRow base 9 1 (.slice (some ⟨g, 0, none⟩) es.length cap) es.length (cellsOf encS 1 es) from h)
  obtain ⟨A, cap', hv, hcc, hcm, _, _⟩ := h.form
  cases hv
  clear h
  go_enter Try.func66, Try.ntmps66
  go_wp2_with fail
  go_loopw [1, 5] (fun x y wr => ∃ (i K : Nat), i ≤ es.length ∧ K = k + i ∧ x = .int .i64 K ∧ y = .int .i64 i ∧ Hid (wr.ownsRow base 9 1 (.slice (some ⟨g, 0, none⟩) es.length cap) es.length (cellsOf encS 1 ((markT k es.length).take i ++ es.drop i))) ∧ Hid (Kp [g] w wr)) (fun x y _ => es.length - (intOf y).toNat)
  case atStart => exact ⟨0, k, Nat.zero_le _, by omega, rfl, rfl, by simpa using HO, Lib.hid (Kp.refl _ _)⟩
  case round =>
    obtain ⟨i, K, hi, hK, rfl, rfl, HW, HB⟩ := hrel
    have HK := Lib.hid hK
    clear hK
    by_cases hlt : i < es.length
    · have HT := Lib.hid (fun w => markText_any K w (by have := HK.out; omega) (by have := HK.out; omega))
      go_wp2_with fail
      refine Calls.mono (HT.out _) ?_
      rintro e w2 ⟨rfl, hB2⟩
      have hO2 := ownsRow_below' HW.out hB2
      have hl : (cellsOf encS 1 ((markT k es.length).take i ++ es.drop i)).length = es.length * 1 := hO2.1
      obtain ⟨v0, hv0⟩ : ∃ v0, w2.cell? ⟨g, i, none⟩ = some v0 := ⟨_, (hO2.cellAt i (by omega)).trans (List.getElem?_eq_getElem (by omega))⟩
      have hf0 := hO2.frozenAt i
      have HO2 := Lib.hid hO2
      have HB2 := Lib.hid (HB.out.trans ((Kp.of_below hB2).all [g]))
      clear hO2 hl hB2
      have k1 : IntKind.i64.wrap ((K : Int) + 1) = (K : Int) + 1 := IntWalk.i64_in _ (by have := HK.out; omega)
      go_wp2_with fail
      go_roundw
      case rel =>
        refine ⟨i + 1, K + 1, by omega, by have := HK.out; omega, by go_num, by go_num, ?_, ?_⟩
        · have h1 := (HO2.out.stored i (.string (markS K))).1
          have e := cellsOf_set1 (enc := encS) ((markT k es.length).take i ++ es.drop i) i (markS K) (by simp [markT_length]; omega)
          have e2 := markT_mix k es.length i es rfl hlt
          rw [← HK.out] at e2
          rw [e2] at e
          rw [← e]
          exact h1
        · exact Lib.hid (HB2.out.setCell (.inl (by simp)) _)
      case measure => simp [intOf]; omega
    · obtain rfl : i = es.length := by omega
      have hKe := HK.out
      subst hKe
      have HX := Lib.hid (show Own encS 1 9 base wr (.slice (some ⟨g, 0, none⟩) es.length cap) (markT k es.length) by
        have := HW.out
        rw [List.take_of_length_le (by rw [markT_length]; exact Nat.le_refl _), List.drop_of_length_le (Nat.le_refl _), List.append_nil] at this
        unfold Own
        rw [markT_length]
        exact this)
      go_wp2_with fail
      go_ret
      exact ⟨rfl, HX.out, HB.out⟩

theorem own_above' {base : Nat} {w : World} {v : Value} {xs : List ByteArray} (h : Own encS 1 9 base w v xs) : ∀ k ∈ exOf' v, base ≤ k ∧ k < w.heap.size := by
  rcases h.2 with ⟨rfl, _⟩ | ⟨g, cap, cur, rfl, hg, hh, _⟩
  · intro k hk; simp [exOf', Value.ownBlock] at hk
  · intro k hk
    simp [exOf', Value.ownBlock] at hk
    subst hk
    refine ⟨hg, ?_⟩
    rcases Nat.lt_or_ge k w.heap.size with h' | h'
    · exact h'
    · rw [Array.getElem?_eq_none h'] at hh; cases hh
theorem mem_exOf' {v : Value} {k : Nat} (h : v.ownBlock = some k) : k ∈ exOf' v := by simp [exOf', h]
/-- Two rows of which the one was made when the other stood: apart. -/
theorem apart' {b1 b2 : Nat} {w1 w2 : World} {v1 v2 : Value} {xs ys : List ByteArray} (h1 : Own encS 1 9 b1 w1 v1 xs) (h2 : Own encS 1 9 b2 w2 v2 ys) (hlt : w1.heap.size ≤ b2) :
    (∀ k ∈ exOf' v1, v2.ownBlock ≠ some k) ∧ (∀ k ∈ exOf' v2, v1.ownBlock ≠ some k) := by
  refine ⟨fun k hk e => ?_, fun k hk e => ?_⟩
  · have := own_above' h1 k hk
    have := own_above' h2 k (mem_exOf' e)
    omega
  · have := own_above' h2 k hk
    have := own_above' h1 k (mem_exOf' e)
    omega
theorem own_rd' {base : Nat} {w : World} {A : Option Addr} {n c : Nat} {xs : List ByteArray} (h : Own encS 1 9 base w (.slice A n c) xs) : RdT encS 1 w A xs ∧ xs.length = n ∧ n ≤ c ∧ c ≤ 9223372036854775807 := by
  obtain ⟨A', c', hv, h1, h2, _, h3⟩ := h.form
  cases hv
  exact ⟨h3, rfl, h1, h2⟩

theorem markStringS_any (base : Nat) (w : World) (v : Value) (k : Nat) (es : List ByteArray) (h : Own encS 1 9 base w v es) (hn : es.length ≤ 1048576) (hk1 : 1 ≤ k) (hk2 : k ≤ 1048592) :
    Calls Try.prog 66 #[v, .int .i64 k] w (MarkPostS base k es.length w v) := by
  have h' := h
  rcases h.2 with ⟨rfl, h0⟩ | ⟨g, cap, cur, rfl, hg, hh, _⟩
  · have he : es = [] := List.length_eq_zero_iff.1 h0
    subst he
    have HX := Lib.hid (show Own encS 1 9 base w (.slice none 0 0) (markT k 0) from Own.nil)
    clear h h'
    go_enter Try.func66, Try.ntmps66
    go_wp2_with fail
    go_loopw [1, 5] (fun x y wr => x = .int .i64 k ∧ y = .int .i64 0 ∧ wr = w) (fun x y _ => 0)
    case atStart => exact ⟨rfl, rfl, rfl⟩
    case round =>
      obtain ⟨rfl, rfl, rfl⟩ := hrel
      go_wp2_with fail
      go_ret
      exact ⟨rfl, HX.out, Kp.refl _ _⟩
  · have hlt : g < w.heap.size := by
      rcases Nat.lt_or_ge g w.heap.size with h' | h'
      · exact h'
      · rw [Array.getElem?_eq_none h'] at hh; cases hh
    exact markStringS_at base w g cap k es h' hn hk1 hk2 hlt

end Go.Proofs.Ytomofiklodojeaa
