/- What every card of this seat takes beside its walk. -/
import Derived.Test.YtanccfiiemlmeaaDoorLaw
import Derived.Test.YtanccfiiemlmeaaDoorLawCode
import Derived.Test.YtanccfiiemlmeaaDoorCards
import Derived.Test.YtanccfiiemlmeaaDoorTie
import Derived.Deep.DeepHandedRow
import Derived.Lay
import Derived.SevenTiedAt
namespace Go.Proofs.YtanccfiiemlmeaaDoor
open Go.ChangeShapes Go.WideShapes Go.ChangeAt Go.RowKit
theorem spec_fits : True := trivial
end Go.Proofs.YtanccfiiemlmeaaDoor
