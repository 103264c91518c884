/- Whether two lists of texts are alike, as the drawn laws ask. -/
import Derived.Test.YtamljoffmkcbnaaStrS
namespace Go.Proofs.Ytamljoffmkcbnaa
open Go.RowKit
set_option linter.unusedVariables false
set_option linter.unusedSimpArgs false

set_option maxHeartbeats 1000000 in
theorem pfTexts_true (w : World) (A B : Option Addr) (cap dap : Nat) (xs : List ByteArray) (h : RdT encS 1 w A xs) (g : RdT encS 1 w B xs) (hc : xs.length ≤ cap) (hd : xs.length ≤ dap) (hm : cap ≤ 9223372036854775807) :
    Calls Try.prog 44 #[.slice A xs.length cap, .slice B xs.length dap] w fun e w' => e = .returned (.bool true) ∧ Below w.heap.size w w' := by
  have HR := Lib.hid h
  have HG := Lib.hid g
  clear h g
  go_enter Try.func44, Try.ntmps44
  go_wp2_with fail
  go_loopw [5] (fun i wr => ∃ k : Nat, k ≤ xs.length ∧ i = .int .i64 k ∧ Below w.heap.size w wr) (fun i _ => xs.length - (intOf i).toNat)
  case atStart => exact ⟨0, Nat.zero_le _, rfl, Below.refl _ _⟩
  case round =>
    obtain ⟨k, hk, rfl, hB⟩ := hrel
    have HB := Lib.hid hB
    clear hB
    by_cases hlt : k < xs.length
    · obtain ⟨b, off, s, rfl, hb, he, c0⟩ := (HR.out.below HB.out).str hlt
      obtain ⟨b', off', s', rfl, hb', he', c0'⟩ := (HG.out.below HB.out).str hlt
      obtain rfl : s = s' := by rw [he] at he'; cases he'; rfl
      clear he he'
      go_wp2_with fail
      refine wp_quiet_b (by kernel_rfl) (by kernel_rfl) (fun hgrow => ?_)
      repeat (go_big_quiet_step (fail))
      refine wpQuiet_nil ?_
      intro w2 hww2
      replace hww2 := below_of_regrown hww2
      clear hgrow
      go_wp2_with fail
      go_roundw
      case rel => exact ⟨k + 1, by omega, by go_num, by have := HB.out; (repeat (first | assumption | exact Below.refl _ _ | refine below_alloc ?_ _ | refine Below.drew ?_ | refine below_drewN ?_ _ | refine below_set ?_ (by first | exact Nat.le_refl _ | omega | (simp; done) | (simp; omega)) _ | refine below_kp ?_ (by assumption) (by simp) | refine below_below ?_ (by assumption)))⟩
      case measure => simp [intOf]; omega
    · obtain rfl : k = xs.length := by omega
      go_wp2_with fail
      go_ret
      exact ⟨rfl, HB.out⟩


end Go.Proofs.Ytamljoffmkcbnaa
