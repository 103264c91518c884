/- Whether two spaces are alike; the sum of a list: as the drawn laws ask. -/
import Derived.Test.YtomofiklodojeaaSpace
import Derived.Test.YtomofiklodojeaaQuiet
namespace Go.Proofs.Ytomofiklodojeaa
open Go.RowKit
set_option maxRecDepth 100000
set_option linter.unusedVariables false
set_option linter.unusedSimpArgs false

set_option maxHeartbeats 1000000 in
theorem pfInts_true (w : World) (A B : Option Addr) (cap dap : Nat) (xs : List Int) (h : RdT encN 1 w A xs) (g : RdT encN 1 w B xs) (hc : xs.length ≤ cap) (hd : xs.length ≤ dap) (hm : cap ≤ 9223372036854775807) :
    Calls Try.prog 59 #[.slice A xs.length cap, .slice B xs.length dap] w fun e w' => e = .returned (.bool true) ∧ Below w.heap.size w w' := by
  have HR := Lib.hid h
  have HG := Lib.hid g
  clear h g
  go_enter Try.func59, Try.ntmps59
  go_wp2_with fail
  go_loopw [5] (fun i wr => ∃ k : Nat, k ≤ xs.length ∧ i = .int .i64 k ∧ Below w.heap.size w wr) (fun i _ => xs.length - (intOf i).toNat)
  case atStart => exact ⟨0, Nat.zero_le _, rfl, Below.refl _ _⟩
  case round =>
    obtain ⟨k, hk, rfl, hB⟩ := hrel
    have HB := Lib.hid hB
    clear hB
    by_cases hlt : k < xs.length
    · obtain ⟨b, off, s, rfl, hb, he, c0⟩ := (HR.out.below HB.out).num hlt
      obtain ⟨b', off', s', rfl, hb', he', c0'⟩ := (HG.out.below HB.out).num hlt
      obtain rfl : s = s' := by rw [he] at he'; cases he'; rfl
      clear he he'
      go_wp2_with fail
      refine wp_quiet_b (by kernel_rfl) (by kernel_rfl) (fun hgrow => ?_)
      repeat (go_big_quiet_step (fail))
      refine wpQuiet_nil ?_
      intro w2 hww2
      replace hww2 := below_of_regrown hww2
      clear hgrow
      go_wp2_with fail
      go_roundw
      case rel => exact ⟨k + 1, by omega, by go_num, by have := HB.out; (repeat (first | assumption | exact Below.refl _ _ | refine below_alloc ?_ _ | refine Below.drew ?_ | refine below_drewN ?_ _ | refine below_set ?_ (by first | exact Nat.le_refl _ | omega | (simp; done) | (simp; omega)) _ | refine below_kp ?_ (by assumption) (by simp) | refine below_below ?_ (by assumption)))⟩
      case measure => simp [intOf]; omega
    · obtain rfl : k = xs.length := by omega
      go_wp2_with fail
      go_ret
      exact ⟨rfl, HB.out⟩

set_option maxHeartbeats 1000000 in
theorem pfSpace_true (w : World) (A B A' B' : Option Addr) (c d c' d' : Nat) (rs ls : List Int) (hA : RdT encN 1 w A rs) (hB : RdT encN 1 w B ls) (hA' : RdT encN 1 w A' rs) (hB' : RdT encN 1 w B' ls)
    (hc : rs.length ≤ c) (hd : ls.length ≤ d) (hc' : rs.length ≤ c') (hd' : ls.length ≤ d') (hm : c ≤ 9223372036854775807) (hn : d ≤ 9223372036854775807) :
    Calls Try.prog 15 #[.agg #[.slice A rs.length c, .slice B ls.length d], .agg #[.slice A' rs.length c', .slice B' ls.length d']] w fun e w' => e = .returned (.bool true) ∧ Below w.heap.size w w' := by
  have HA := Lib.hid hA
  have HB := Lib.hid hB
  have HA' := Lib.hid hA'
  have HB' := Lib.hid hB'
  clear hA hB hA' hB'
  have HBw := Lib.hid (below_alloc (below_alloc (Below.refl w.heap.size w) (.cells #[.slice A rs.length c, .slice B ls.length d] 27)) (.cells #[.slice A' rs.length c', .slice B' ls.length d'] 27))
  go_enter Try.func15, Try.ntmps15
  go_wp2_with fail
  refine Calls.mono (pfInts_true _ A A' c c' rs (HA.out.below HBw.out) (HA'.out.below HBw.out) hc hc' hm) ?_
  rintro e w1 ⟨rfl, hB1⟩
  have HB1 := Lib.hid (below_below HBw.out hB1)
  obtain ⟨c1, f1⟩ := bcell hB1
  have hz1 : w.heap.size + 1 < w1.heap.size := by have := hB1.size; simp at this; omega
  have hx1 : w.heap.size < w1.heap.size := by omega
  clear hB1
  go_wp2_with fail
  refine Calls.mono (pfInts_true _ B B' d d' ls (HB.out.below HB1.out) (HB'.out.below HB1.out) hd hd' hn) ?_
  rintro e w2 ⟨rfl, hB2⟩
  have HB2 := Lib.hid (below_below HB1.out hB2)
  clear hB2
  go_wp2_with fail
  go_ret
  exact ⟨rfl, HB2.out⟩

theorem sum_take {xs : List Int} {k : Nat} (hk : k < xs.length) : (xs.take (k + 1)).sum = (xs.take k).sum + xs.getD k 0 := by
  have e : xs.take (k + 1) = xs.take k ++ [xs.getD k 0] := by
    rw [List.take_add_one, List.getElem?_eq_getElem hk, List.getD_eq_getElem?_getD, List.getElem?_eq_getElem hk]; rfl
  rw [e, List.sum_append]
  simp
theorem sum_in {xs : List Int} (h : ∀ i, 0 ≤ xs.getD i 0 ∧ xs.getD i 0 ≤ 1048576) (k : Nat) (hk : k ≤ xs.length) : 0 ≤ (xs.take k).sum ∧ (xs.take k).sum ≤ 1048576 * (k : Int) := by
  induction k with
  | zero => simp
  | succ k ih =>
    have := ih (by omega)
    have := h k
    rw [sum_take (by omega)]
    omega

set_option maxHeartbeats 1000000 in
theorem pfSum_any (w : World) (A : Option Addr) (c : Nat) (xs : List Int) (h : RdT encN 1 w A xs) (hc : xs.length ≤ c) (hm : xs.length ≤ 1048576) (hb : ∀ i, 0 ≤ xs.getD i 0 ∧ xs.getD i 0 ≤ 1048576) :
    Calls Try.prog 25 #[.slice A xs.length c] w fun e w' => e = .returned (.int .i64 xs.sum) ∧ w = w' := by
  have HR := Lib.hid h
  have HE := Lib.hid (show (xs.take xs.length).sum = xs.sum by rw [List.take_length])
  have HT := Lib.hid (fun k (hk : k < xs.length) => sum_take hk)
  have HI := Lib.hid (fun k hk => sum_in hb k hk)
  have HBB := Lib.hid hb
  generalize xs.sum = r at *
  clear h hb
  go_enter Try.func25, Try.ntmps25
  go_wp2_with fail
  go_loop [3, 4] (fun x i => ∃ (k : Nat) (a : Int), k ≤ xs.length ∧ i = .int .i64 k ∧ x = .int .i64 a ∧ Hid ((xs.take k).sum = a)) (fun _ i => xs.length - (intOf i).toNat)
  case atStart => exact ⟨0, 0, Nat.zero_le _, rfl, rfl, Lib.hid (by simp)⟩
  case round =>
    obtain ⟨k, a, hk, rfl, rfl, HS⟩ := hrel
    have ha := HI.out k hk
    rw [HS.out] at ha
    obtain ⟨ha0, ha1⟩ := ha
    by_cases hlt : k < xs.length
    · obtain ⟨b, off, rfl, hb, c1⟩ := num_at (k := k) HR.out hlt
      have HS2 := Lib.hid ((HT.out k hlt).trans (by rw [HS.out]))
      have hy := HBB.out k
      generalize xs.getD k 0 = y at *
      obtain ⟨hy0, hy1⟩ := hy
      clear HS HT HE HI HBB
      go_wp2_with fail
      exact ⟨⟨k + 1, _, by omega, by go_num, rfl, HS2⟩, by simp [intOf]; omega⟩
    · obtain rfl : k = xs.length := by omega
      have HZ := Lib.hid (HE.out.symm.trans HS.out)
      clear HS HT HE HI HBB
      go_wp2_with fail
      go_ret
      exact ⟨ret_int HZ.out.symm, rfl⟩

end Go.Proofs.Ytomofiklodojeaa
