/- One entry taken out: the reference's l12Less and EntriesLess. -/
import Derived.Test.YtjalboplilolkaaDoorEntFind
import Derived.Test.YtjalboplilolkaaDoorAppend
namespace Go.Proofs.YtjalboplilolkaaDoor
open Go.RowKit
set_option linter.unusedVariables false
set_option linter.unusedSimpArgs false

theorem elE : El 24 76 2 24 := El.mk' Tryd.underlying24 (z := .agg #[.string ⟨#[]⟩, .int .i64 0]) (by kernel_rfl) rfl (by omega)
theorem oneE : OneC encE := fun x j => by
  cases j <;> rfl

def OwnPost (w : World) (es : List Ent) (e : Ending) (w' : World) : Prop := ∃ v, e = .returned v ∧ Own encE 2 76 w.heap.size w' v es ∧ Below w.heap.size w w'

end Go.Proofs.YtjalboplilolkaaDoor
