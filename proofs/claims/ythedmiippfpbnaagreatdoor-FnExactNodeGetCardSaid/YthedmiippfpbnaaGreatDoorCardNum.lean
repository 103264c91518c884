/- What a card's laid tables give a walk: the powers of ten, the variable of the syntax error. -/
import Derived.Test.YthedmiippfpbnaaGreatDoorLawCard
import Derived.Test.YthedmiippfpbnaaGreatDoorNum
import Derived.Stop.LaidErr
import Derived.Stop.ErrReads
namespace Go.Proofs.YthedmiippfpbnaaGreatDoor
open Go.RowKit Go.Stop
set_option maxRecDepth 100000
set_option linter.unusedVariables false

theorem tenAt_of {rest : List (String × DataW Unit)} {W : World} (h : laidMet Tryz.prog (("internal/strconv.uint64pow10", Rows.laid_internal_strconv_uint64pow10) :: rest) W) : TenAt W :=
  Lib.tabIs_of_head (g := 3) (by kernel_rfl) (by kernel_rfl) Tryz.underlying119 Tryz.underlying92 (by kernel_rfl) (by kernel_rfl) h
theorem star_err : "*" ++ "errors.errorString" = "*errors.errorString" := by decide
theorem row_err (u : TypeId) (h : Tryz.prog.typeName? 3 u = some "*errors.errorString") : u = 107 :=
  typeName_ptr_named (nm := "errors.errorString") (by rw [star_err]; kernel_rfl) (by kernel_rfl) (by decide) u (by rw [star_err]; exact h)
theorem errAt_of {rest : List (String × DataW Unit)} {W : World} (h : laidMet Tryz.prog (("strconv.ErrSyntax", Rows.laid_strconv_ErrSyntax) :: rest) W) : ErrAt W := by
  have hg : Tryz.prog.globalNamed "strconv.ErrSyntax" = some 1 := by kernel_rfl
  obtain ⟨a0, s0, hv0, _, _, _⟩ := laid_sentinel h hg (by kernel_rfl) Tryz.underlying62 row_err Tryz.underlying107 Tryz.underlying109 rfl rfl Tryz.underlying9 (by kernel_rfl) (by kernel_rfl)
  exact ⟨_, by simpa using World.var?_cell hg hv0 0, .inr ⟨_, _, rfl⟩⟩
theorem cutAt_of {W : World} (h : W.ShapedOpen Tryz.prog) : ∃ m : Int, W.cell? ⟨0, 0, none⟩ = some (.int .i64 m) := Tryz.laysM145.s1_3 W h

end Go.Proofs.YthedmiippfpbnaaGreatDoor
