/- What every card of this seat takes beside its walk. -/
import Derived.Test.YtjalboplilolkaaDoorLaw
import Derived.Test.YtjalboplilolkaaDoorLawCode
import Derived.Test.YtjalboplilolkaaDoorCards
import Derived.Test.YtjalboplilolkaaDoorTie
import Derived.Deep.DeepHandedRow
import Derived.Lay
import Derived.SevenTiedAt
namespace Go.Proofs.YtjalboplilolkaaDoor
open Go.ChangeShapes Go.WideShapes Go.ChangeAt Go.RowKit
theorem spec_fits : True := trivial
end Go.Proofs.YtjalboplilolkaaDoor
