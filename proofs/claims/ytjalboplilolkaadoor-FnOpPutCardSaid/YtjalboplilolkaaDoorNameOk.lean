/- The program's NameOk returns 'nameB s' for every text s. -/
import Derived.Test.YtjalboplilolkaaDoorNames
import Derived.Test.YtjalboplilolkaaDoorShelf
namespace Go.Proofs.YtjalboplilolkaaDoor
open Go.RowKit
set_option linter.unusedVariables false

theorem nameOk_any (s : ByteArray) (w : World) (hs : s.size ≤ 9223372036854775807) :
    Calls Tryd.prog 55 #[.string s] w fun e w' => e = .returned (.bool (nameB s)) ∧ Below w.heap.size w w' := by
  by_cases hin : inB s.size 1 4 = true
  · have hb := inB_true hin
    have HN := Lib.hid ((nameB_in hin).trans (idx_low s).symm)
    have cI := fun w => Tryd.strings_IndexFunc_runes 88 #[] (enters_of Tryd.func88 (by kernel_rfl) rfl) notLow s w (fun W x _ _ => (notLow_any x W).mono fun _ _ ⟨he, hw⟩ => ⟨he, 0, hw.symm⟩)
    have HC := Lib.hid cI
    clear cI
    rw [HN.out]
    clear HN
    generalize Lib.idxFunc notLow true s = J at HC ⊢
    go_enter Tryd.func55, Tryd.ntmps55
    go_wp2_with (first | (go_at_call 56; refine (within_any _ _ _ _).mono ?_; rintro e w' ⟨rfl, rfl⟩) | (go_at_call 87; refine (HC.out _).mono ?_; rintro e w' ⟨rfl, hB⟩))
    all_goals
      go_ret
      exact ⟨ret_bool (by simp_all), hB⟩
  · have hin' : inB s.size 1 4 = false := by simpa using hin
    rw [nameB_out hin']
    clear hin
    go_enter Tryd.func55, Tryd.ntmps55
    go_wp2_with (first | (go_at_call 56; refine (within_any _ _ _ _).mono ?_; rintro e w' ⟨rfl, rfl⟩))
    go_ret
    exact ⟨rfl, Below.refl _ _⟩

end Go.Proofs.YtjalboplilolkaaDoor
