/-
  DERIVED. GIVEN WITH THE SEED: THE CARDS: each row of YthedmiippfpbnaaGreatDoorRows.lean that lists a variable, with what it lists TIED to the program's text (the seventh form; the later family's looks); each row that meets fmt, with fmt's text TOLD by the authors' own Lean function (tested against real Go, not proved from fmt's source: count such statements apart). THE CARD IS WHAT COUNTS. Prove the row's statement (the work); the ties are given (YthedmiippfpbnaaGreatDoorTie.lean); close each card by the builder's one call (the guide's Derived/Test/ToyasCard.lean, 'card_holds'). Laid BY PROGRAM, IN A SANDBOX (cutbox-door.mjs). By AI agents, Wed Nov 11 2026. No macro, syntax, notation, axiom, sorry.
-/
import Derived.Test.YthedmiippfpbnaaGreatDoorRows
import GoSem.ClaimSeven
namespace Go.Proofs.YthedmiippfpbnaaGreatDoor
namespace Rows

/-- THE TIED CARD OF 'laws.FnExactNodeGet'. -/
def fnExactNodeGetCard : Claim7 := { stood := { row := fnExactNodeGetRow, standIns := [], harness := (true, "bd7f9944b5f07b1e972e1a20d5be0b14dc7aec0f9a3d44aa281be3a91d0cc9b9"), looks := true }, kinds := [], alts := [], laidByText := true, laidKinds := [.data, .data, .data, .data, .sentinel, .sentinel, .pinned], laidTests := true, laidLooks := .later }
def FnExactNodeGetCardSaid : Prop := Claim7.holds Tryz.pinned (.plain (OpenSpec.ofChange fnExactNodeGetSpec)) fnExactNodeGetCard

/-- THE SECOND FORM's CARD OF 'laws.FnExactNodeGet'. -/
def fnExactNodeGetUptoCard : Claim7 := { stood := { row := fnExactNodeGetUptoRow, standIns := [], harness := (true, "bd7f9944b5f07b1e972e1a20d5be0b14dc7aec0f9a3d44aa281be3a91d0cc9b9"), looks := true }, kinds := [], alts := [], laidByText := true, laidKinds := [.data, .data, .data, .data, .sentinel, .sentinel, .pinned], laidTests := true, laidLooks := .later }
def FnExactNodeGetUptoCardSaid : Prop := Claim7.holds Tryz.pinned (.plain (OpenSpec.upto fnExactNodeGetSpec)) fnExactNodeGetUptoCard
end Rows
end Go.Proofs.YthedmiippfpbnaaGreatDoor
