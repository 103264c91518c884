/- What every card of this seat takes beside its walk. -/
import Derived.Test.YthedmiippfpbnaaDoorLaw
import Derived.Test.YthedmiippfpbnaaDoorLawCode
import Derived.Test.YthedmiippfpbnaaDoorCards
import Derived.Test.YthedmiippfpbnaaDoorTie
import Derived.Deep.DeepHandedRow
import Derived.Lay
import Derived.SevenTiedAt
namespace Go.Proofs.YthedmiippfpbnaaDoor
open Go.ChangeShapes Go.WideShapes Go.ChangeAt Go.RowKit
theorem spec_fits : True := trivial
end Go.Proofs.YthedmiippfpbnaaDoor
