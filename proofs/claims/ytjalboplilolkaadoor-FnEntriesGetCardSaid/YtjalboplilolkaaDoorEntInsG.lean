/- slices.Insert of one entry in the middle, no room: a new row. -/
import Derived.Test.YtjalboplilolkaaDoorEntIns
import Derived.Test.YtjalboplilolkaaDoorRowGrow
import Derived.Lib.AppendZerosOnto
import Derived.Shelf.Spec.SlicesInsertGrow
namespace Go.Proofs.YtjalboplilolkaaDoor
open Go.RowKit
set_option linter.unusedVariables false
set_option linter.unusedSimpArgs false

end Go.Proofs.YtjalboplilolkaaDoor
