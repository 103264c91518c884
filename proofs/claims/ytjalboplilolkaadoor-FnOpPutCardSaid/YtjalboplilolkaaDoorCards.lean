/-
  DERIVED. GIVEN WITH THE SEED: THE CARDS: each row of YtjalboplilolkaaDoorRows.lean that lists a variable, with what it lists TIED to the program's text (the seventh form; the later family's looks); each row that meets fmt, with fmt's text TOLD by the authors' own Lean function (tested against real Go, not proved from fmt's source: count such statements apart). THE CARD IS WHAT COUNTS. Prove the row's statement (the work); the ties are given (YtjalboplilolkaaDoorTie.lean); close each card by the builder's one call (the guide's Derived/Test/ToyasCard.lean, 'card_holds'). Laid BY PROGRAM, IN A SANDBOX (cutbox-door.mjs). By AI agents, Wed Nov 11 2026. No macro, syntax, notation, axiom, sorry.
-/
import Derived.Test.YtjalboplilolkaaDoorRows
import GoSem.ClaimSeven
namespace Go.Proofs.YtjalboplilolkaaDoor
namespace Rows

/-- THE TIED CARD OF 'laws.FnEntriesGet'. -/
def fnEntriesGetCard : Claim7 := { stood := { row := fnEntriesGetRow, standIns := [], harness := (true, "c00124d58edc749e3ed3cae37708ac2a15838ea48596394e9cadf6f73b109d31"), looks := true }, kinds := [], alts := [], laidByText := true, laidKinds := [.data, .data, .data, .sentinel, .sentinel], laidTests := true, laidLooks := .later }
def FnEntriesGetCardSaid : Prop := Claim7.holds Tryd.pinned (.plain (OpenSpec.ofChange fnEntriesGetSpec)) fnEntriesGetCard

/-- THE TIED CARD OF 'laws.FnEntriesOk'. -/
def fnEntriesOkCard : Claim7 := { stood := { row := fnEntriesOkRow, standIns := [], harness := (true, "c00124d58edc749e3ed3cae37708ac2a15838ea48596394e9cadf6f73b109d31"), looks := true }, kinds := [], alts := [], laidByText := true, laidKinds := [.data, .data, .data], laidTests := true, laidLooks := .later }
def FnEntriesOkCardSaid : Prop := Claim7.holds Tryd.pinned (.plain (OpenSpec.ofChange fnEntriesOkSpec)) fnEntriesOkCard

/-- THE TIED CARD OF 'laws.FnEntriesPut'. -/
def fnEntriesPutCard : Claim7 := { stood := { row := fnEntriesPutRow, standIns := [], harness := (true, "c00124d58edc749e3ed3cae37708ac2a15838ea48596394e9cadf6f73b109d31"), looks := true }, kinds := [], alts := [], laidByText := true, laidKinds := [.data, .data, .data, .sentinel, .sentinel], laidTests := true, laidLooks := .later }
def FnEntriesPutCardSaid : Prop := Claim7.holds Tryd.pinned (.plain (OpenSpec.ofChange fnEntriesPutSpec)) fnEntriesPutCard

/-- THE TIED CARD OF 'laws.FnExactEntriesGet'. -/
def fnExactEntriesGetCard : Claim7 := { stood := { row := fnExactEntriesGetRow, standIns := [], harness := (true, "c00124d58edc749e3ed3cae37708ac2a15838ea48596394e9cadf6f73b109d31"), looks := true }, kinds := [], alts := [], laidByText := true, laidKinds := [.data, .data, .data, .sentinel, .sentinel], laidTests := true, laidLooks := .later }
def FnExactEntriesGetCardSaid : Prop := Claim7.holds Tryd.pinned (.plain (OpenSpec.ofChange fnExactEntriesGetSpec)) fnExactEntriesGetCard

/-- THE TIED CARD OF 'laws.FnExactEntriesPut'. -/
def fnExactEntriesPutCard : Claim7 := { stood := { row := fnExactEntriesPutRow, standIns := [], harness := (true, "c00124d58edc749e3ed3cae37708ac2a15838ea48596394e9cadf6f73b109d31"), looks := true }, kinds := [], alts := [], laidByText := true, laidKinds := [.data, .data, .data], laidTests := true, laidLooks := .later }
def FnExactEntriesPutCardSaid : Prop := Claim7.holds Tryd.pinned (.plain (OpenSpec.ofChange fnExactEntriesPutSpec)) fnExactEntriesPutCard

/-- THE TIED CARD OF 'laws.FnExactNodePut'. -/
def fnExactNodePutCard : Claim7 := { stood := { row := fnExactNodePutRow, standIns := [], harness := (true, "c00124d58edc749e3ed3cae37708ac2a15838ea48596394e9cadf6f73b109d31"), looks := true }, kinds := [], alts := [], laidByText := true, laidKinds := [.data, .data, .data], laidTests := true, laidLooks := .later }
def FnExactNodePutCardSaid : Prop := Claim7.holds Tryd.pinned (.plain (OpenSpec.ofChange fnExactNodePutSpec)) fnExactNodePutCard

/-- THE TIED CARD OF 'laws.FnExactOpGet'. -/
def fnExactOpGetCard : Claim7 := { stood := { row := fnExactOpGetRow, standIns := [], harness := (true, "c00124d58edc749e3ed3cae37708ac2a15838ea48596394e9cadf6f73b109d31"), looks := true }, kinds := [], alts := [], laidByText := true, laidKinds := [.data, .data, .data, .data, .sentinel, .sentinel, .pinned], laidTests := true, laidLooks := .later }
def FnExactOpGetCardSaid : Prop := Claim7.holds Tryd.pinned (.plain (OpenSpec.ofChange fnExactOpGetSpec)) fnExactOpGetCard

/-- THE TIED CARD OF 'laws.FnExactOpPut'. -/
def fnExactOpPutCard : Claim7 := { stood := { row := fnExactOpPutRow, standIns := [], harness := (true, "c00124d58edc749e3ed3cae37708ac2a15838ea48596394e9cadf6f73b109d31"), looks := true }, kinds := [], alts := [], laidByText := true, laidKinds := [.data, .data, .data, .data, .pinned], laidTests := true, laidLooks := .later }
def FnExactOpPutCardSaid : Prop := Claim7.holds Tryd.pinned (.plain (OpenSpec.ofChange fnExactOpPutSpec)) fnExactOpPutCard

/-- THE TIED CARD OF 'laws.FnOpOk'. -/
def fnOpOkCard : Claim7 := { stood := { row := fnOpOkRow, standIns := [], harness := (true, "c00124d58edc749e3ed3cae37708ac2a15838ea48596394e9cadf6f73b109d31"), looks := true }, kinds := [], alts := [], laidByText := true, laidKinds := [.data, .data, .data, .data, .pinned], laidTests := true, laidLooks := .later }
def FnOpOkCardSaid : Prop := Claim7.holds Tryd.pinned (.plain (OpenSpec.ofChange fnOpOkSpec)) fnOpOkCard

/-- THE TIED CARD OF 'laws.FnOpPut'. -/
def fnOpPutCard : Claim7 := { stood := { row := fnOpPutRow, standIns := [], harness := (true, "c00124d58edc749e3ed3cae37708ac2a15838ea48596394e9cadf6f73b109d31"), looks := true }, kinds := [], alts := [], laidByText := true, laidKinds := [.data, .data, .data, .data, .sentinel, .sentinel, .pinned], laidTests := true, laidLooks := .later }
def FnOpPutCardSaid : Prop := Claim7.holds Tryd.pinned (.plain (OpenSpec.ofChange fnOpPutSpec)) fnOpPutCard

/-- THE SECOND FORM's CARD OF 'laws.FnEntriesGet'. -/
def fnEntriesGetUptoCard : Claim7 := { stood := { row := fnEntriesGetUptoRow, standIns := [], harness := (true, "c00124d58edc749e3ed3cae37708ac2a15838ea48596394e9cadf6f73b109d31"), looks := true }, kinds := [], alts := [], laidByText := true, laidKinds := [.data, .data, .data, .sentinel, .sentinel], laidTests := true, laidLooks := .later }
def FnEntriesGetUptoCardSaid : Prop := Claim7.holds Tryd.pinned (.plain (OpenSpec.upto fnEntriesGetSpec)) fnEntriesGetUptoCard

/-- THE SECOND FORM's CARD OF 'laws.FnEntriesOk'. -/
def fnEntriesOkUptoCard : Claim7 := { stood := { row := fnEntriesOkUptoRow, standIns := [], harness := (true, "c00124d58edc749e3ed3cae37708ac2a15838ea48596394e9cadf6f73b109d31"), looks := true }, kinds := [], alts := [], laidByText := true, laidKinds := [.data, .data, .data], laidTests := true, laidLooks := .later }
def FnEntriesOkUptoCardSaid : Prop := Claim7.holds Tryd.pinned (.plain (OpenSpec.upto fnEntriesOkSpec)) fnEntriesOkUptoCard

/-- THE SECOND FORM's CARD OF 'laws.FnEntriesPut'. -/
def fnEntriesPutUptoCard : Claim7 := { stood := { row := fnEntriesPutUptoRow, standIns := [], harness := (true, "c00124d58edc749e3ed3cae37708ac2a15838ea48596394e9cadf6f73b109d31"), looks := true }, kinds := [], alts := [], laidByText := true, laidKinds := [.data, .data, .data, .sentinel, .sentinel], laidTests := true, laidLooks := .later }
def FnEntriesPutUptoCardSaid : Prop := Claim7.holds Tryd.pinned (.plain (OpenSpec.upto fnEntriesPutSpec)) fnEntriesPutUptoCard

/-- THE SECOND FORM's CARD OF 'laws.FnExactEntriesGet'. -/
def fnExactEntriesGetUptoCard : Claim7 := { stood := { row := fnExactEntriesGetUptoRow, standIns := [], harness := (true, "c00124d58edc749e3ed3cae37708ac2a15838ea48596394e9cadf6f73b109d31"), looks := true }, kinds := [], alts := [], laidByText := true, laidKinds := [.data, .data, .data, .sentinel, .sentinel], laidTests := true, laidLooks := .later }
def FnExactEntriesGetUptoCardSaid : Prop := Claim7.holds Tryd.pinned (.plain (OpenSpec.upto fnExactEntriesGetSpec)) fnExactEntriesGetUptoCard

/-- THE SECOND FORM's CARD OF 'laws.FnExactEntriesPut'. -/
def fnExactEntriesPutUptoCard : Claim7 := { stood := { row := fnExactEntriesPutUptoRow, standIns := [], harness := (true, "c00124d58edc749e3ed3cae37708ac2a15838ea48596394e9cadf6f73b109d31"), looks := true }, kinds := [], alts := [], laidByText := true, laidKinds := [.data, .data, .data], laidTests := true, laidLooks := .later }
def FnExactEntriesPutUptoCardSaid : Prop := Claim7.holds Tryd.pinned (.plain (OpenSpec.upto fnExactEntriesPutSpec)) fnExactEntriesPutUptoCard

/-- THE SECOND FORM's CARD OF 'laws.FnExactNodePut'. -/
def fnExactNodePutUptoCard : Claim7 := { stood := { row := fnExactNodePutUptoRow, standIns := [], harness := (true, "c00124d58edc749e3ed3cae37708ac2a15838ea48596394e9cadf6f73b109d31"), looks := true }, kinds := [], alts := [], laidByText := true, laidKinds := [.data, .data, .data], laidTests := true, laidLooks := .later }
def FnExactNodePutUptoCardSaid : Prop := Claim7.holds Tryd.pinned (.plain (OpenSpec.upto fnExactNodePutSpec)) fnExactNodePutUptoCard

/-- THE SECOND FORM's CARD OF 'laws.FnExactOpGet'. -/
def fnExactOpGetUptoCard : Claim7 := { stood := { row := fnExactOpGetUptoRow, standIns := [], harness := (true, "c00124d58edc749e3ed3cae37708ac2a15838ea48596394e9cadf6f73b109d31"), looks := true }, kinds := [], alts := [], laidByText := true, laidKinds := [.data, .data, .data, .data, .sentinel, .sentinel, .pinned], laidTests := true, laidLooks := .later }
def FnExactOpGetUptoCardSaid : Prop := Claim7.holds Tryd.pinned (.plain (OpenSpec.upto fnExactOpGetSpec)) fnExactOpGetUptoCard

/-- THE SECOND FORM's CARD OF 'laws.FnExactOpPut'. -/
def fnExactOpPutUptoCard : Claim7 := { stood := { row := fnExactOpPutUptoRow, standIns := [], harness := (true, "c00124d58edc749e3ed3cae37708ac2a15838ea48596394e9cadf6f73b109d31"), looks := true }, kinds := [], alts := [], laidByText := true, laidKinds := [.data, .data, .data, .data, .pinned], laidTests := true, laidLooks := .later }
def FnExactOpPutUptoCardSaid : Prop := Claim7.holds Tryd.pinned (.plain (OpenSpec.upto fnExactOpPutSpec)) fnExactOpPutUptoCard

/-- THE SECOND FORM's CARD OF 'laws.FnOpOk'. -/
def fnOpOkUptoCard : Claim7 := { stood := { row := fnOpOkUptoRow, standIns := [], harness := (true, "c00124d58edc749e3ed3cae37708ac2a15838ea48596394e9cadf6f73b109d31"), looks := true }, kinds := [], alts := [], laidByText := true, laidKinds := [.data, .data, .data, .data, .pinned], laidTests := true, laidLooks := .later }
def FnOpOkUptoCardSaid : Prop := Claim7.holds Tryd.pinned (.plain (OpenSpec.upto fnOpOkSpec)) fnOpOkUptoCard

/-- THE SECOND FORM's CARD OF 'laws.FnOpPut'. -/
def fnOpPutUptoCard : Claim7 := { stood := { row := fnOpPutUptoRow, standIns := [], harness := (true, "c00124d58edc749e3ed3cae37708ac2a15838ea48596394e9cadf6f73b109d31"), looks := true }, kinds := [], alts := [], laidByText := true, laidKinds := [.data, .data, .data, .data, .sentinel, .sentinel, .pinned], laidTests := true, laidLooks := .later }
def FnOpPutUptoCardSaid : Prop := Claim7.holds Tryd.pinned (.plain (OpenSpec.upto fnOpPutSpec)) fnOpPutUptoCard
end Rows
end Go.Proofs.YtjalboplilolkaaDoor
