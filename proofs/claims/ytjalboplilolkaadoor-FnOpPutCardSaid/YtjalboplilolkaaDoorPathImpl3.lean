/- Paths, the program's functions: whether, the last name, the folder, joining, being under. -/
import Derived.Test.YtjalboplilolkaaDoorPathImpl2
namespace Go.Proofs.YtjalboplilolkaaDoor
open Go.RowKit
set_option linter.unusedVariables false
set_option linter.unusedSimpArgs false

theorem pathOk_any (w : World) (s : ByteArray) (hM : MaxAt w) (hs : s.size ≤ 1048576) :
    Calls Tryd.prog 75 #[.string s] w fun e w' => e = .returned (.bool (pathB s)) ∧ Below w.heap.size w w' := by
  have HP := Lib.hid (pathNames_any w s hM hs)
  generalize pathB s = b at *
  go_enter Tryd.func75, Tryd.ntmps75
  go_wp2_with fail
  refine Calls.mono HP.out ?_
  rintro e w1 ⟨v, rfl, hO, hB⟩
  obtain ⟨A, cap, rfl, _⟩ := hO.form
  have HB := Lib.hid hB
  clear hB
  go_wp2_with fail
  go_ret
  exact ⟨rfl, HB.out⟩

def SplitPost (w : World) (f n : ByteArray) (e : Ending) (w' : World) : Prop := e = .returned (.tuple #[.string f, .string n]) ∧ Below w.heap.size w w'

theorem under_yes {s t : ByteArray} (hs : pathB s = true) (ht : pathB t = true) (h : (namesT t).length ≤ (namesT s).length) : decide ((namesT s).take (namesT t).length = namesT t) = underB s t := by
  simp [underB, hs, ht, h]

end Go.Proofs.YtjalboplilolkaaDoor
