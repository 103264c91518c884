/-
  DERIVED. GIVEN WITH THE SEED: THE CARDS: each row of YtafadedacbjioaaGreatDoorRows.lean that lists a variable, with what it lists TIED to the program's text (the seventh form; the later family's looks); each row that meets fmt, with fmt's text TOLD by the authors' own Lean function (tested against real Go, not proved from fmt's source: count such statements apart). THE CARD IS WHAT COUNTS. Prove the row's statement (the work); the ties are given (YtafadedacbjioaaGreatDoorTie.lean); close each card by the builder's one call (the guide's Derived/Test/ToyasCard.lean, 'card_holds'). Laid BY PROGRAM, IN A SANDBOX (cutbox-door.mjs). By AI agents, Wed Nov 11 2026. No macro, syntax, notation, axiom, sorry.
-/
import Derived.Test.YtafadedacbjioaaGreatDoorRows
import GoSem.ClaimSeven
namespace Go.Proofs.YtafadedacbjioaaGreatDoor
namespace Rows

/-- THE TIED CARD OF 'laws.FnExactBlobSame'. -/
def fnExactBlobSameCard : Claim7 := { stood := { row := fnExactBlobSameRow, standIns := [], harness := (true, "838de3f893ec286ce3f51a8d12c1b2926ee20ef2b5f7c9144dbe576b15aa7327"), looks := true }, kinds := [], alts := [], laidByText := true, laidKinds := [.data, .data, .data, .data, .sentinel, .sentinel, .pinned], laidTests := true, laidLooks := .later }
def FnExactBlobSameCardSaid : Prop := Claim7.holds Tryz.pinned (.plain (OpenSpec.ofChange fnExactBlobSameSpec)) fnExactBlobSameCard

/-- THE TIED CARD OF 'laws.FnExactTreeLeaves'. -/
def fnExactTreeLeavesCard : Claim7 := { stood := { row := fnExactTreeLeavesRow, standIns := [], harness := (true, "838de3f893ec286ce3f51a8d12c1b2926ee20ef2b5f7c9144dbe576b15aa7327"), looks := true }, kinds := [], alts := [], laidByText := true, laidKinds := [.data, .data, .data, .data, .sentinel, .sentinel, .pinned], laidTests := true, laidLooks := .later }
def FnExactTreeLeavesCardSaid : Prop := Claim7.holds Tryz.pinned (.plain (OpenSpec.ofChange fnExactTreeLeavesSpec)) fnExactTreeLeavesCard

/-- THE TIED CARD OF 'laws.FnExactTreeDiff'. -/
def fnExactTreeDiffCard : Claim7 := { stood := { row := fnExactTreeDiffRow, standIns := [], harness := (true, "838de3f893ec286ce3f51a8d12c1b2926ee20ef2b5f7c9144dbe576b15aa7327"), looks := true }, kinds := [], alts := [], laidByText := true, laidKinds := [.data, .data, .data, .data, .sentinel, .sentinel, .pinned], laidTests := true, laidLooks := .later }
def FnExactTreeDiffCardSaid : Prop := Claim7.holds Tryz.pinned (.plain (OpenSpec.ofChange fnExactTreeDiffSpec)) fnExactTreeDiffCard

/-- THE TIED CARD OF 'laws.FnExactTreeOk'. -/
def fnExactTreeOkCard : Claim7 := { stood := { row := fnExactTreeOkRow, standIns := [], harness := (true, "838de3f893ec286ce3f51a8d12c1b2926ee20ef2b5f7c9144dbe576b15aa7327"), looks := true }, kinds := [], alts := [], laidByText := true, laidKinds := [.data, .data, .data, .data, .sentinel, .sentinel, .pinned], laidTests := true, laidLooks := .later }
def FnExactTreeOkCardSaid : Prop := Claim7.holds Tryz.pinned (.plain (OpenSpec.ofChange fnExactTreeOkSpec)) fnExactTreeOkCard

/-- THE TIED CARD OF 'laws.FnExactTreeGet'. -/
def fnExactTreeGetCard : Claim7 := { stood := { row := fnExactTreeGetRow, standIns := [], harness := (true, "838de3f893ec286ce3f51a8d12c1b2926ee20ef2b5f7c9144dbe576b15aa7327"), looks := true }, kinds := [], alts := [], laidByText := true, laidKinds := [.data, .data, .data, .data, .sentinel, .sentinel, .pinned], laidTests := true, laidLooks := .later }
def FnExactTreeGetCardSaid : Prop := Claim7.holds Tryz.pinned (.plain (OpenSpec.ofChange fnExactTreeGetSpec)) fnExactTreeGetCard

/-- THE TIED CARD OF 'laws.FnExactBlobShare'. -/
def fnExactBlobShareCard : Claim7 := { stood := { row := fnExactBlobShareRow, standIns := [], harness := (true, "838de3f893ec286ce3f51a8d12c1b2926ee20ef2b5f7c9144dbe576b15aa7327"), looks := true }, kinds := [], alts := [], laidByText := true, laidKinds := [.data, .data, .data, .data, .sentinel, .sentinel, .pinned], laidTests := true, laidLooks := .later }
def FnExactBlobShareCardSaid : Prop := Claim7.holds Tryz.pinned (.plain (OpenSpec.ofChange fnExactBlobShareSpec)) fnExactBlobShareCard

/-- THE TIED CARD OF 'laws.FnExactBlobGet'. -/
def fnExactBlobGetCard : Claim7 := { stood := { row := fnExactBlobGetRow, standIns := [], harness := (true, "838de3f893ec286ce3f51a8d12c1b2926ee20ef2b5f7c9144dbe576b15aa7327"), looks := true }, kinds := [], alts := [], laidByText := true, laidKinds := [.data, .data, .data, .data, .sentinel, .sentinel, .pinned], laidTests := true, laidLooks := .later }
def FnExactBlobGetCardSaid : Prop := Claim7.holds Tryz.pinned (.plain (OpenSpec.ofChange fnExactBlobGetSpec)) fnExactBlobGetCard

/-- THE SECOND FORM's CARD OF 'laws.FnExactBlobSame'. -/
def fnExactBlobSameUptoCard : Claim7 := { stood := { row := fnExactBlobSameUptoRow, standIns := [], harness := (true, "838de3f893ec286ce3f51a8d12c1b2926ee20ef2b5f7c9144dbe576b15aa7327"), looks := true }, kinds := [], alts := [], laidByText := true, laidKinds := [.data, .data, .data, .data, .sentinel, .sentinel, .pinned], laidTests := true, laidLooks := .later }
def FnExactBlobSameUptoCardSaid : Prop := Claim7.holds Tryz.pinned (.plain (OpenSpec.upto fnExactBlobSameSpec)) fnExactBlobSameUptoCard

/-- THE SECOND FORM's CARD OF 'laws.FnExactTreeLeaves'. -/
def fnExactTreeLeavesUptoCard : Claim7 := { stood := { row := fnExactTreeLeavesUptoRow, standIns := [], harness := (true, "838de3f893ec286ce3f51a8d12c1b2926ee20ef2b5f7c9144dbe576b15aa7327"), looks := true }, kinds := [], alts := [], laidByText := true, laidKinds := [.data, .data, .data, .data, .sentinel, .sentinel, .pinned], laidTests := true, laidLooks := .later }
def FnExactTreeLeavesUptoCardSaid : Prop := Claim7.holds Tryz.pinned (.plain (OpenSpec.upto fnExactTreeLeavesSpec)) fnExactTreeLeavesUptoCard

/-- THE SECOND FORM's CARD OF 'laws.FnExactTreeDiff'. -/
def fnExactTreeDiffUptoCard : Claim7 := { stood := { row := fnExactTreeDiffUptoRow, standIns := [], harness := (true, "838de3f893ec286ce3f51a8d12c1b2926ee20ef2b5f7c9144dbe576b15aa7327"), looks := true }, kinds := [], alts := [], laidByText := true, laidKinds := [.data, .data, .data, .data, .sentinel, .sentinel, .pinned], laidTests := true, laidLooks := .later }
def FnExactTreeDiffUptoCardSaid : Prop := Claim7.holds Tryz.pinned (.plain (OpenSpec.upto fnExactTreeDiffSpec)) fnExactTreeDiffUptoCard

/-- THE SECOND FORM's CARD OF 'laws.FnExactTreeOk'. -/
def fnExactTreeOkUptoCard : Claim7 := { stood := { row := fnExactTreeOkUptoRow, standIns := [], harness := (true, "838de3f893ec286ce3f51a8d12c1b2926ee20ef2b5f7c9144dbe576b15aa7327"), looks := true }, kinds := [], alts := [], laidByText := true, laidKinds := [.data, .data, .data, .data, .sentinel, .sentinel, .pinned], laidTests := true, laidLooks := .later }
def FnExactTreeOkUptoCardSaid : Prop := Claim7.holds Tryz.pinned (.plain (OpenSpec.upto fnExactTreeOkSpec)) fnExactTreeOkUptoCard

/-- THE SECOND FORM's CARD OF 'laws.FnExactTreeGet'. -/
def fnExactTreeGetUptoCard : Claim7 := { stood := { row := fnExactTreeGetUptoRow, standIns := [], harness := (true, "838de3f893ec286ce3f51a8d12c1b2926ee20ef2b5f7c9144dbe576b15aa7327"), looks := true }, kinds := [], alts := [], laidByText := true, laidKinds := [.data, .data, .data, .data, .sentinel, .sentinel, .pinned], laidTests := true, laidLooks := .later }
def FnExactTreeGetUptoCardSaid : Prop := Claim7.holds Tryz.pinned (.plain (OpenSpec.upto fnExactTreeGetSpec)) fnExactTreeGetUptoCard

/-- THE SECOND FORM's CARD OF 'laws.FnExactBlobShare'. -/
def fnExactBlobShareUptoCard : Claim7 := { stood := { row := fnExactBlobShareUptoRow, standIns := [], harness := (true, "838de3f893ec286ce3f51a8d12c1b2926ee20ef2b5f7c9144dbe576b15aa7327"), looks := true }, kinds := [], alts := [], laidByText := true, laidKinds := [.data, .data, .data, .data, .sentinel, .sentinel, .pinned], laidTests := true, laidLooks := .later }
def FnExactBlobShareUptoCardSaid : Prop := Claim7.holds Tryz.pinned (.plain (OpenSpec.upto fnExactBlobShareSpec)) fnExactBlobShareUptoCard

/-- THE SECOND FORM's CARD OF 'laws.FnExactBlobGet'. -/
def fnExactBlobGetUptoCard : Claim7 := { stood := { row := fnExactBlobGetUptoRow, standIns := [], harness := (true, "838de3f893ec286ce3f51a8d12c1b2926ee20ef2b5f7c9144dbe576b15aa7327"), looks := true }, kinds := [], alts := [], laidByText := true, laidKinds := [.data, .data, .data, .data, .sentinel, .sentinel, .pinned], laidTests := true, laidLooks := .later }
def FnExactBlobGetUptoCardSaid : Prop := Claim7.holds Tryz.pinned (.plain (OpenSpec.upto fnExactBlobGetSpec)) fnExactBlobGetUptoCard
end Rows
end Go.Proofs.YtafadedacbjioaaGreatDoor
