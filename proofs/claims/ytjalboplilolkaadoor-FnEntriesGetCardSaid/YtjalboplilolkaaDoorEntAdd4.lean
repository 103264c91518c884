/- EntriesAdd, the program's: the call. -/
import Derived.Test.YtjalboplilolkaaDoorEntAdd3
import Derived.Test.YtjalboplilolkaaDoorEntApart
namespace Go.Proofs.YtjalboplilolkaaDoor
open Go.RowKit
set_option linter.unusedVariables false
set_option linter.unusedSimpArgs false

end Go.Proofs.YtjalboplilolkaaDoor
