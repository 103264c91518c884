/- Marking a list of numbers, and space; whether the marks are still there. -/
import Derived.Test.YtomofiklodojeaaIntS
import Derived.Test.YtomofiklodojeaaMarkStr
namespace Go.Proofs.Ytomofiklodojeaa
open Go.RowKit
set_option maxRecDepth 100000
set_option linter.unusedVariables false
set_option linter.unusedSimpArgs false

def markN (k n : Nat) : List Int := (List.range n).map fun i => ((k + i : Nat) : Int)
theorem markN_length (k n : Nat) : (markN k n).length = n := by simp [markN]
theorem markN_get (k n i : Nat) (h : i < n) : (markN k n)[i]? = some ((k + i : Nat) : Int) := by simp [markN, h]

set_option maxHeartbeats 2000000 in
theorem heldIntS_any (w : World) (A : Option Addr) (cap n k : Nat) (h : RdT encN 1 w A (markN k n)) (hc : n ≤ cap) (hn : n ≤ 1048576) (hk2 : k ≤ 10485920) :
    Calls Try.prog 63 #[.slice A n cap, .int .i64 k] w fun e w' => e = .returned (.int .i64 ((k + n : Nat) : Int)) ∧ w = w' := by
  have HR := Lib.hid h
  clear h
  go_enter Try.func63, Try.ntmps63
  go_wp2_with fail
  go_loop [1, 5] (fun x y => ∃ (i K : Nat), i ≤ n ∧ K = k + i ∧ x = .int .i64 K ∧ y = .int .i64 i) (fun x y => n - (intOf y).toNat)
  case atStart => exact ⟨0, k, Nat.zero_le _, by omega, rfl, rfl⟩
  case round =>
    obtain ⟨i, K, hi, hK, rfl, rfl⟩ := hrel
    have HK := Lib.hid hK
    have hKb : K ≤ 20000000 := by omega
    clear hK
    by_cases hlt : i < n
    · obtain ⟨b, off, s, rfl, hb, he, c0⟩ := HR.out.num (k := i) (by rw [markN_length]; exact hlt)
      rw [markN_get _ _ _ hlt, ← HK.out] at he
      obtain rfl : ((K : Nat) : Int) = s := Option.some.inj he
      clear he
      go_wp2_with fail
      go_round
      case rel => exact ⟨i + 1, K + 1, by omega, by have := HK.out; omega, by go_num, by go_num⟩
      case measure => simp [intOf]; omega
    · obtain rfl : i = n := by omega
      have hKe := HK.out
      subst hKe
      go_wp2_with fail
      go_ret
      exact ⟨rfl, rfl⟩

def MarkPostN (base k n : Nat) (w : World) (v : Value) (e : Ending) (w' : World) : Prop := e = .returned (.int .i64 ((k + n : Nat) : Int)) ∧ Own encN 1 3 base w' v (markN k n) ∧ Kp (exOf' v) w w'

theorem markN_mix (k n i : Nat) (es : List Int) (hn : es.length = n) (hi : i < n) : ((markN k n).take i ++ es.drop i).set i ((k + i : Nat) : Int) = (markN k n).take (i + 1) ++ es.drop (i + 1) := by
  apply List.ext_getElem?
  intro j
  have h1 : ((markN k n).take i).length = i := by rw [List.length_take, markN_length]; omega
  have h2 : ((markN k n).take (i + 1)).length = i + 1 := by rw [List.length_take, markN_length]; omega
  by_cases hj : j < i
  · rw [List.getElem?_set_ne (by omega), List.getElem?_append_left (by omega), List.getElem?_append_left (by omega), List.getElem?_take, List.getElem?_take, if_pos hj, if_pos (by omega)]
  · by_cases hj2 : j = i
    · subst hj2
      rw [List.getElem?_set_self (by simp [markN_length]; omega), List.getElem?_append_left (by omega), List.getElem?_take, if_pos (by omega), markN_get _ _ _ hi]
    · rw [List.getElem?_set_ne (by omega), List.getElem?_append_right (by omega), List.getElem?_append_right (by omega), h1, h2, List.getElem?_drop, List.getElem?_drop]
      congr 1
      omega

set_option maxHeartbeats 2000000 in
theorem markIntS_at (base : Nat) (w : World) (g cap k : Nat) (es : List Int) (h : Own encN 1 3 base w (.slice (some ⟨g, 0, none⟩) es.length cap) es) (hn : es.length ≤ 1048576) (hk2 : k ≤ 10485920) (hg : g < w.heap.size) :
    Calls Try.prog 62 #[.slice (some ⟨g, 0, none⟩) es.length cap, .int .i64 k] w (MarkPostN base k es.length w (.slice (some ⟨g, 0, none⟩) es.length cap)) := by
  have HO := Lib.hid (show w.ownsRow base 3 1 (.slice (some ⟨g, 0, none⟩) es.length cap) es.length (cellsOf encN 1 es) from h)
  obtain ⟨A, cap', hv, hcc, hcm, _, _⟩ := h.form
  cases hv
  clear h
  go_enter Try.func62, Try.ntmps62
  go_wp2_with fail
  go_loopw [1, 5] (fun x y wr => ∃ (i K : Nat), i ≤ es.length ∧ K = k + i ∧ x = .int .i64 K ∧ y = .int .i64 i ∧ Hid (wr.ownsRow base 3 1 (.slice (some ⟨g, 0, none⟩) es.length cap) es.length (cellsOf encN 1 ((markN k es.length).take i ++ es.drop i))) ∧ Hid (Kp [g] w wr)) (fun x y _ => es.length - (intOf y).toNat)
  case atStart => exact ⟨0, k, Nat.zero_le _, by omega, rfl, rfl, by simpa using HO, Lib.hid (Kp.refl _ _)⟩
  case round =>
    obtain ⟨i, K, hi, hK, rfl, rfl, HW, HB⟩ := hrel
    have HK := Lib.hid hK
    have hKb : K ≤ 20000000 := by omega
    clear hK
    by_cases hlt : i < es.length
    · have hO2 := HW.out
      have hl : (cellsOf encN 1 ((markN k es.length).take i ++ es.drop i)).length = es.length * 1 := hO2.1
      obtain ⟨v0, hv0⟩ : ∃ v0, wr.cell? ⟨g, i, none⟩ = some v0 := ⟨_, (hO2.cellAt i (by omega)).trans (List.getElem?_eq_getElem (by omega))⟩
      have hf0 := hO2.frozenAt i
      clear hO2 hl
      go_wp2_with fail
      go_roundw
      case rel =>
        refine ⟨i + 1, K + 1, by omega, by have := HK.out; omega, by go_num, by go_num, ?_, ?_⟩
        · have h1 := (HW.out.stored i (.int .i64 (K : Int))).1
          have e := cellsOf_set1 (enc := encN) ((markN k es.length).take i ++ es.drop i) i (K : Int) (by simp [markN_length]; omega)
          have e2 := markN_mix k es.length i es rfl hlt
          rw [← HK.out] at e2
          rw [e2] at e
          rw [← e]
          exact h1
        · exact Lib.hid (HB.out.setCell (.inl (by simp)) _)
      case measure => simp [intOf]; omega
    · obtain rfl : i = es.length := by omega
      have hKe := HK.out
      subst hKe
      have HX := Lib.hid (show Own encN 1 3 base wr (.slice (some ⟨g, 0, none⟩) es.length cap) (markN k es.length) by
        have := HW.out
        rw [List.take_of_length_le (by rw [markN_length]; exact Nat.le_refl _), List.drop_of_length_le (Nat.le_refl _), List.append_nil] at this
        unfold Own
        rw [markN_length]
        exact this)
      go_wp2_with fail
      go_ret
      exact ⟨rfl, HX.out, HB.out⟩

theorem markIntS_any (base : Nat) (w : World) (v : Value) (k : Nat) (es : List Int) (h : Own encN 1 3 base w v es) (hn : es.length ≤ 1048576) (hk2 : k ≤ 10485920) :
    Calls Try.prog 62 #[v, .int .i64 k] w (MarkPostN base k es.length w v) := by
  have h' := h
  rcases h.2 with ⟨rfl, h0⟩ | ⟨g, cap, cur, rfl, hg, hh, _⟩
  · have he : es = [] := List.length_eq_zero_iff.1 h0
    subst he
    have HX := Lib.hid (show Own encN 1 3 base w (.slice none 0 0) (markN k 0) from Own.nil)
    clear h h'
    go_enter Try.func62, Try.ntmps62
    go_wp2_with fail
    go_loopw [1, 5] (fun x y wr => x = .int .i64 k ∧ y = .int .i64 0 ∧ wr = w) (fun x y _ => 0)
    case atStart => exact ⟨rfl, rfl, rfl⟩
    case round =>
      obtain ⟨rfl, rfl, rfl⟩ := hrel
      go_wp2_with fail
      go_ret
      exact ⟨rfl, HX.out, Kp.refl _ _⟩
  · have hlt : g < w.heap.size := by
      rcases Nat.lt_or_ge g w.heap.size with h' | h'
      · exact h'
      · rw [Array.getElem?_eq_none h'] at hh; cases hh
    exact markIntS_at base w g cap k es h' hn hk2 hlt

/-! Rows of the call's own, apart from each other, whatever their elements. -/
theorem own_in {α : Type} {enc : α → Nat → Value} {sz T base : Nat} {w : World} {v : Value} {xs : List α} (h : Own enc sz T base w v xs) : ∀ k ∈ exOf' v, base ≤ k ∧ k < w.heap.size := by
  rcases h.2 with ⟨rfl, _⟩ | ⟨g, cap, cur, rfl, hg, hh, _⟩
  · intro k hk; simp [exOf', Value.ownBlock] at hk
  · intro k hk
    simp [exOf', Value.ownBlock] at hk
    subst hk
    refine ⟨hg, ?_⟩
    rcases Nat.lt_or_ge k w.heap.size with h' | h'
    · exact h'
    · rw [Array.getElem?_eq_none h'] at hh; cases hh
theorem own_rdG {α : Type} {enc : α → Nat → Value} {sz T base : Nat} {w : World} {A : Option Addr} {n c : Nat} {xs : List α} (h : Own enc sz T base w (.slice A n c) xs) : RdT enc sz w A xs ∧ xs.length = n ∧ n ≤ c ∧ c ≤ 9223372036854775807 := by
  obtain ⟨A', c', hv, h1, h2, _, h3⟩ := h.form
  cases hv
  exact ⟨h3, rfl, h1, h2⟩
def Apart (v u : Value) : Prop := ∀ k ∈ exOf' v, k ∉ exOf' u
theorem Apart.symm {v u : Value} (h : Apart v u) : Apart u v := fun k hk hm => h k hm hk
theorem apart_nil (u : Value) : Apart (.slice none 0 0) u := fun k hk => by simp [exOf', Value.ownBlock] at hk
theorem apart_of {α β : Type} {e1 : α → Nat → Value} {e2 : β → Nat → Value} {s1 s2 T1 T2 b1 b2 : Nat} {w1 w2 : World} {v1 v2 : Value} {xs : List α} {ys : List β} (h1 : Own e1 s1 T1 b1 w1 v1 xs) (h2 : Own e2 s2 T2 b2 w2 v2 ys) (hlt : w1.heap.size ≤ b2) : Apart v1 v2 := fun k hk hm => by
  have := own_in h1 k hk
  have := own_in h2 k hm
  omega
/-- What another row's writing leaves alone. -/
theorem Own.kpx {α : Type} {enc : α → Nat → Value} {sz T base : Nat} {w w' : World} {v u : Value} {xs : List α} (h : Own enc sz T base w v xs) (hk : Kp (exOf' u) w w') (ha : Apart u v) : Own enc sz T base w' v xs :=
  h.kp hk (fun k hm e => ha k hm (mem_exOf' e))

set_option maxHeartbeats 1000000 in
theorem heldSpace_any (w : World) (A B : Option Addr) (c d n m k : Nat) (h : RdT encN 1 w A (markN k n)) (g : RdT encN 1 w B (markN (k + n) m)) (hc : n ≤ c) (hd : m ≤ d) (hn : n ≤ 1048576) (hm : m ≤ 1048576) (hk2 : k ≤ 4194304) :
    Calls Try.prog 22 #[.agg #[.slice A n c, .slice B m d], .int .i64 k] w fun e w' => e = .returned (.int .i64 ((k + n + m : Nat) : Int)) ∧ Below w.heap.size w w' := by
  have HB := Lib.hid (below_alloc (Below.refl w.heap.size w) (.cells #[.slice A n c, .slice B m d] 27))
  have H1 := Lib.hid (heldIntS_any _ A c n k (h.below HB.out) hc hn (by omega))
  have H2 := Lib.hid (heldIntS_any _ B d m (k + n) (g.below HB.out) hd hm (by omega))
  clear h g
  have hk1 : (0 : Int) ≤ ((k + n : Nat) : Int) := Int.natCast_nonneg _
  have hk3 : (0 : Int) ≤ ((k + n + m : Nat) : Int) := Int.natCast_nonneg _
  generalize k + n + m = q at *
  generalize k + n = p at *
  go_enter Try.func22, Try.ntmps22
  go_wp2_with fail
  refine Calls.mono H1.out ?_
  rintro e w1 ⟨rfl, rfl⟩
  go_wp2_with fail
  refine Calls.mono H2.out ?_
  rintro e w2 ⟨rfl, rfl⟩
  go_wp2_with fail
  go_ret
  exact ⟨rfl, HB.out⟩

def MarkSp (base k n m : Nat) (w : World) (v u : Value) (e : Ending) (w' : World) : Prop := e = .returned (.int .i64 ((k + n + m : Nat) : Int)) ∧ Own encN 1 3 base w' v (markN k n) ∧ Own encN 1 3 base w' u (markN (k + n) m) ∧ Kp (exOf' v ++ exOf' u) w w'

set_option maxHeartbeats 1000000 in
theorem markSpace_any (base : Nat) (w : World) (A B : Option Addr) (c d k : Nat) (xs ys : List Int) (h : Own encN 1 3 base w (.slice A xs.length c) xs) (g : Own encN 1 3 base w (.slice B ys.length d) ys) (ha : Apart (.slice A xs.length c) (.slice B ys.length d)) (hn : xs.length ≤ 1048576) (hm : ys.length ≤ 1048576) (hk2 : k ≤ 4194304) :
    Calls Try.prog 21 #[.agg #[.slice A xs.length c, .slice B ys.length d], .int .i64 k] w (MarkSp base k xs.length ys.length w (.slice A xs.length c) (.slice B ys.length d)) := by
  have HB := Lib.hid (below_alloc (Below.refl w.heap.size w) (.cells #[.slice A xs.length c, .slice B ys.length d] 27))
  have H0 := Lib.hid (h.below HB.out)
  have G0 := Lib.hid (g.below HB.out)
  have hin := own_in h
  have hin2 := own_in g
  have HI := Lib.hid (And.intro hin hin2)
  have HA := Lib.hid ha
  clear h g hin hin2 ha
  have H1 := Lib.hid (markIntS_any base _ _ k xs H0.out hn (by omega))
  have hlt : w.heap.size < (w.alloc (.cells #[.slice A xs.length c, .slice B ys.length d] 27)).heap.size := by simp
  go_enter Try.func21, Try.ntmps21
  go_wp2_with fail
  refine Calls.mono H1.out ?_
  rintro e w1 ⟨rfl, hO1, hK1⟩
  have s1 : w1.cell? ⟨w.heap.size, 1, none⟩ = some (.slice B ys.length d) := by
    rw [hK1.cell hlt (fun hm => by have := (HI.out.1 _ hm).2; omega)]
    simp [go_sem]
  have G1 := Lib.hid (G0.out.kpx hK1 HA.out)
  have O1 := Lib.hid hO1
  have K1 := Lib.hid (HB.out |> Kp.of_below |>.all _ |>.trans hK1)
  clear hO1 hK1 H1
  have H2 := Lib.hid (markIntS_any base w1 _ (k + xs.length) ys G1.out hm (by omega))
  generalize hp : k + xs.length = p at *
  have hpb : p ≤ 9000000 := by omega
  go_wp2_with fail
  refine Calls.mono H2.out ?_
  rintro e w2 ⟨rfl, hO2, hK2⟩
  have O2 := Lib.hid hO2
  have P2 := Lib.hid (O1.out.kpx hK2 HA.out.symm)
  have K2 := Lib.hid ((K1.out.mono (fun k hk => List.mem_append_left _ hk)).trans (hK2.mono (fun k hk => List.mem_append_right (exOf' (.slice A xs.length c)) hk)))
  clear hO2 hK2
  go_wp2_with fail
  go_ret
  exact ⟨show Ending.returned (.int .i64 ((p : Int) + (ys.length : Int))) = _ from ret_int (by rw [hp]; omega), P2.out, by rw [hp]; exact O2.out, K2.out⟩

end Go.Proofs.Ytomofiklodojeaa
