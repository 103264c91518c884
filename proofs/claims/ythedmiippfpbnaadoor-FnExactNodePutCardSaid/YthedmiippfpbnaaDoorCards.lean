/-
  DERIVED. GIVEN WITH THE SEED: THE CARDS: each row of YthedmiippfpbnaaDoorRows.lean that lists a variable, with what it lists TIED to the program's text (the seventh form; the later family's looks); each row that meets fmt, with fmt's text TOLD by the authors' own Lean function (tested against real Go, not proved from fmt's source: count such statements apart). THE CARD IS WHAT COUNTS. Prove the row's statement (the work); the ties are given (YthedmiippfpbnaaDoorTie.lean); close each card by the builder's one call (the guide's Derived/Test/ToyasCard.lean, 'card_holds'). Laid BY PROGRAM, IN A SANDBOX (cutbox-door.mjs). By AI agents, Wed Nov 11 2026. No macro, syntax, notation, axiom, sorry.
-/
import Derived.Test.YthedmiippfpbnaaDoorRows
import GoSem.ClaimSeven
namespace Go.Proofs.YthedmiippfpbnaaDoor
namespace Rows

/-- THE TIED CARD OF 'laws.FnExactNodePut'. -/
def fnExactNodePutCard : Claim7 := { stood := { row := fnExactNodePutRow, standIns := [], harness := (true, "c56642e6a7ab799267ca4487a1e4e641fc60f5c57136efde43b983cfd30afe43"), looks := false }, kinds := [], alts := [], laidByText := true, laidKinds := [.data, .data, .data], laidTests := true, laidLooks := .later }
def FnExactNodePutCardSaid : Prop := Claim7.holds Tryd.pinned (.plain (OpenSpec.ofChange fnExactNodePutSpec)) fnExactNodePutCard

/-- THE SECOND FORM's CARD OF 'laws.FnExactNodePut'. -/
def fnExactNodePutUptoCard : Claim7 := { stood := { row := fnExactNodePutUptoRow, standIns := [], harness := (true, "c56642e6a7ab799267ca4487a1e4e641fc60f5c57136efde43b983cfd30afe43"), looks := false }, kinds := [], alts := [], laidByText := true, laidKinds := [.data, .data, .data], laidTests := true, laidLooks := .later }
def FnExactNodePutUptoCardSaid : Prop := Claim7.holds Tryd.pinned (.plain (OpenSpec.upto fnExactNodePutSpec)) fnExactNodePutUptoCard
end Rows
end Go.Proofs.YthedmiippfpbnaaDoor
