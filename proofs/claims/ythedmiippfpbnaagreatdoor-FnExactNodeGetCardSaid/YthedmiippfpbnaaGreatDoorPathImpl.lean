/- Paths, the program's functions. -/
import Derived.Test.YthedmiippfpbnaaGreatDoorPathOf
import Derived.Test.YthedmiippfpbnaaGreatDoorNameOk
namespace Go.Proofs.YthedmiippfpbnaaGreatDoor
open Go.RowKit
set_option linter.unusedVariables false
set_option linter.unusedSimpArgs false

/-- Whether a number is one of a place. -/
def PlacePost (w : World) (b : Bool) (e : Ending) (w' : World) : Prop := ∃ z : Int, e = .returned (.int .i64 z) ∧ decide (0 ≤ z) = b ∧ -1 ≤ z ∧ Below w.heap.size w w'

end Go.Proofs.YthedmiippfpbnaaGreatDoor
