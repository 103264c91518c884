/- The program's NameOk returns 'nameB s' for every text s. -/
import Derived.Test.YtdjpacfcimifdaaNames
import Derived.Test.YtdjpacfcimifdaaShelf
namespace Go.Proofs.Ytdjpacfcimifdaa
open Go.RowKit
set_option linter.unusedVariables false

theorem nameOk_any (s : ByteArray) (w : World) (hs : s.size ≤ 9223372036854775807) :
    Calls Try.prog 13 #[.string s] w fun e w' => e = .returned (.bool (nameB s)) ∧ Below w.heap.size w w' := by
  by_cases hin : inB s.size 1 4 = true
  · have hb := inB_true hin
    have HN := Lib.hid ((nameB_in hin).trans (idx_low s).symm)
    have cI := fun w => Try.strings_IndexFunc_runes 34 #[] (enters_of Try.func34 (by kernel_rfl) rfl) notLow s w (fun W x _ _ => (notLow_any x W).mono fun _ _ ⟨he, hw⟩ => ⟨he, 0, hw.symm⟩)
    have HC := Lib.hid cI
    clear cI
    rw [HN.out]
    clear HN
    generalize Lib.idxFunc notLow true s = J at HC ⊢
    go_enter Try.func13, Try.ntmps13
    go_wp2_with (first | (go_at_call 32; refine (within_any _ _ _ _).mono ?_; rintro e w' ⟨rfl, rfl⟩) | (go_at_call 33; refine (HC.out _).mono ?_; rintro e w' ⟨rfl, hB⟩))
    all_goals
      go_ret
      exact ⟨ret_bool (by simp_all), hB⟩
  · have hin' : inB s.size 1 4 = false := by simpa using hin
    rw [nameB_out hin']
    clear hin
    go_enter Try.func13, Try.ntmps13
    go_wp2_with (first | (go_at_call 32; refine (within_any _ _ _ _).mono ?_; rintro e w' ⟨rfl, rfl⟩))
    go_ret
    exact ⟨rfl, Below.refl _ _⟩

end Go.Proofs.Ytdjpacfcimifdaa
