/- What every card of this seat takes beside its walk. -/
import Derived.Test.YthedmiippfpbnaaGreatDoorLaw
import Derived.Test.YthedmiippfpbnaaGreatDoorLawCode
import Derived.Test.YthedmiippfpbnaaGreatDoorCards
import Derived.Test.YthedmiippfpbnaaGreatDoorTie
import Derived.Deep.DeepHandedRow
import Derived.Lay
import Derived.SevenTiedAt
namespace Go.Proofs.YthedmiippfpbnaaGreatDoor
open Go.ChangeShapes Go.WideShapes Go.ChangeAt Go.RowKit
theorem spec_fits : True := trivial
end Go.Proofs.YthedmiippfpbnaaGreatDoor
