/- EntriesAdd, the program's. -/
import Derived.Test.YtjalboplilolkaaDoorEntInsG
import Derived.Test.YtjalboplilolkaaDoorEntAddLaw
namespace Go.Proofs.YtjalboplilolkaaDoor
open Go.RowKit
set_option linter.unusedVariables false
set_option linter.unusedSimpArgs false

end Go.Proofs.YtjalboplilolkaaDoor
