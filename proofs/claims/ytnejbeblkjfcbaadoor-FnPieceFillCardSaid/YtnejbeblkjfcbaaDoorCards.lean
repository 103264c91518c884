/-
  DERIVED. GIVEN WITH THE SEED: THE CARDS: each row of YtnejbeblkjfcbaaDoorRows.lean that lists a variable, with what it lists TIED to the program's text (the seventh form; the later family's looks); each row that meets fmt, with fmt's text TOLD by the authors' own Lean function (tested against real Go, not proved from fmt's source: count such statements apart). THE CARD IS WHAT COUNTS. Prove the row's statement (the work); the ties are given (YtnejbeblkjfcbaaDoorTie.lean); close each card by the builder's one call (the guide's Derived/Test/ToyasCard.lean, 'card_holds'). Laid BY PROGRAM, IN A SANDBOX (cutbox-door.mjs). By AI agents, Wed Nov 11 2026. No macro, syntax, notation, axiom, sorry.
-/
import Derived.Test.YtnejbeblkjfcbaaDoorRows
import GoSem.ClaimSeven
namespace Go.Proofs.YtnejbeblkjfcbaaDoor
namespace Rows

/-- THE TIED CARD OF 'laws.FnExactPieceCut'. -/
def fnExactPieceCutCard : Claim7 := { stood := { row := fnExactPieceCutRow, standIns := [], harness := (true, "d35cdfe8ff7bd318cac69f91cca3cb5d08600591ca9847fa1ba4edce8ebb93df"), looks := false }, kinds := [], alts := [], laidByText := true, laidKinds := [.data, .pinned], laidTests := true, laidLooks := .later }
def FnExactPieceCutCardSaid : Prop := Claim7.holds Tryd.pinned (.plain (OpenSpec.ofChange fnExactPieceCutSpec)) fnExactPieceCutCard

/-- THE TIED CARD OF 'laws.FnPieceFill'. -/
def fnPieceFillCard : Claim7 := { stood := { row := fnPieceFillRow, standIns := [], harness := (true, "d35cdfe8ff7bd318cac69f91cca3cb5d08600591ca9847fa1ba4edce8ebb93df"), looks := false }, kinds := [], alts := [], laidByText := true, laidKinds := [.data, .pinned], laidTests := true, laidLooks := .later }
def FnPieceFillCardSaid : Prop := Claim7.holds Tryd.pinned (.plain (OpenSpec.ofChange fnPieceFillSpec)) fnPieceFillCard

/-- THE TIED CARD OF 'laws.FnPieceCut'. -/
def fnPieceCutCard : Claim7 := { stood := { row := fnPieceCutRow, standIns := [], harness := (true, "d35cdfe8ff7bd318cac69f91cca3cb5d08600591ca9847fa1ba4edce8ebb93df"), looks := false }, kinds := [], alts := [], laidByText := true, laidKinds := [.data, .pinned], laidTests := true, laidLooks := .later }
def FnPieceCutCardSaid : Prop := Claim7.holds Tryd.pinned (.plain (OpenSpec.ofChange fnPieceCutSpec)) fnPieceCutCard

/-- THE SECOND FORM's CARD OF 'laws.FnExactPieceCut'. -/
def fnExactPieceCutUptoCard : Claim7 := { stood := { row := fnExactPieceCutUptoRow, standIns := [], harness := (true, "d35cdfe8ff7bd318cac69f91cca3cb5d08600591ca9847fa1ba4edce8ebb93df"), looks := false }, kinds := [], alts := [], laidByText := true, laidKinds := [.data, .pinned], laidTests := true, laidLooks := .later }
def FnExactPieceCutUptoCardSaid : Prop := Claim7.holds Tryd.pinned (.plain (OpenSpec.upto fnExactPieceCutSpec)) fnExactPieceCutUptoCard

/-- THE SECOND FORM's CARD OF 'laws.FnPieceFill'. -/
def fnPieceFillUptoCard : Claim7 := { stood := { row := fnPieceFillUptoRow, standIns := [], harness := (true, "d35cdfe8ff7bd318cac69f91cca3cb5d08600591ca9847fa1ba4edce8ebb93df"), looks := false }, kinds := [], alts := [], laidByText := true, laidKinds := [.data, .pinned], laidTests := true, laidLooks := .later }
def FnPieceFillUptoCardSaid : Prop := Claim7.holds Tryd.pinned (.plain (OpenSpec.upto fnPieceFillSpec)) fnPieceFillUptoCard

/-- THE SECOND FORM's CARD OF 'laws.FnPieceCut'. -/
def fnPieceCutUptoCard : Claim7 := { stood := { row := fnPieceCutUptoRow, standIns := [], harness := (true, "d35cdfe8ff7bd318cac69f91cca3cb5d08600591ca9847fa1ba4edce8ebb93df"), looks := false }, kinds := [], alts := [], laidByText := true, laidKinds := [.data, .pinned], laidTests := true, laidLooks := .later }
def FnPieceCutUptoCardSaid : Prop := Claim7.holds Tryd.pinned (.plain (OpenSpec.upto fnPieceCutSpec)) fnPieceCutUptoCard
end Rows
end Go.Proofs.YtnejbeblkjfcbaaDoor
