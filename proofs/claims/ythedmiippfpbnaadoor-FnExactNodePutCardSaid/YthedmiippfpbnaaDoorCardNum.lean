/- What a card's laid tables give a walk: the powers of ten, the variable of the syntax error. -/
import Derived.Test.YthedmiippfpbnaaDoorLawCard
import Derived.Test.YthedmiippfpbnaaDoorNum
import Derived.Stop.LaidErr
import Derived.Stop.ErrReads
namespace Go.Proofs.YthedmiippfpbnaaDoor
open Go.RowKit Go.Stop
set_option maxRecDepth 100000
set_option linter.unusedVariables false

theorem tenAt_of {rest : List (String × DataW Unit)} {W : World} (h : laidMet Tryd.prog (("internal/strconv.uint64pow10", Rows.laid_internal_strconv_uint64pow10) :: rest) W) : TenAt W :=
  Lib.tabIs_of_head (g := 0) (by kernel_rfl) (by kernel_rfl) Tryd.underlying80 Tryd.underlying74 (by kernel_rfl) (by kernel_rfl) h
theorem star_err : "*" ++ "errors.errorString" = "*errors.errorString" := by decide
end Go.Proofs.YthedmiippfpbnaaDoor
