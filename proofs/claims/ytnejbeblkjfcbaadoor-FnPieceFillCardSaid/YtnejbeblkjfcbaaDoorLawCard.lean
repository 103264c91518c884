/- What every card of this seat takes beside its walk. -/
import Derived.Test.YtnejbeblkjfcbaaDoorLaw
import Derived.Test.YtnejbeblkjfcbaaDoorLawCode
import Derived.Test.YtnejbeblkjfcbaaDoorCards
import Derived.Test.YtnejbeblkjfcbaaDoorTie
import Derived.Deep.DeepHandedRow
import Derived.Lay
import Derived.SevenTiedAt
namespace Go.Proofs.YtnejbeblkjfcbaaDoor
open Go.ChangeShapes Go.WideShapes Go.ChangeAt Go.RowKit
theorem spec_fits : True := trivial
end Go.Proofs.YtnejbeblkjfcbaaDoor
