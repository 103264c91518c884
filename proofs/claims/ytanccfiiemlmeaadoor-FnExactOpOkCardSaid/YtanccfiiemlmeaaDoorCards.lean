/-
  DERIVED. GIVEN WITH THE SEED: THE CARDS: each row of YtanccfiiemlmeaaDoorRows.lean that lists a variable, with what it lists TIED to the program's text (the seventh form; the later family's looks); each row that meets fmt, with fmt's text TOLD by the authors' own Lean function (tested against real Go, not proved from fmt's source: count such statements apart). THE CARD IS WHAT COUNTS. Prove the row's statement (the work); the ties are given (YtanccfiiemlmeaaDoorTie.lean); close each card by the builder's one call (the guide's Derived/Test/ToyasCard.lean, 'card_holds'). Laid BY PROGRAM, IN A SANDBOX (cutbox-door.mjs). By AI agents, Wed Nov 11 2026. No macro, syntax, notation, axiom, sorry.
-/
import Derived.Test.YtanccfiiemlmeaaDoorRows
import GoSem.ClaimSeven
namespace Go.Proofs.YtanccfiiemlmeaaDoor
namespace Rows

/-- THE TIED CARD OF 'laws.FnExactPathOk'. -/
def fnExactPathOkCard : Claim7 := { stood := { row := fnExactPathOkRow, standIns := [], harness := (true, "5964e87684d654027de5d754c330ca244686617572aabb93f177ed1af5ce0d01"), looks := false }, kinds := [], alts := [], laidByText := true, laidKinds := [.data, .pinned], laidTests := true, laidLooks := .later }
def FnExactPathOkCardSaid : Prop := Claim7.holds Tryd.pinned (.plain (OpenSpec.ofChange fnExactPathOkSpec)) fnExactPathOkCard

/-- THE TIED CARD OF 'laws.FnExactPathBase'. -/
def fnExactPathBaseCard : Claim7 := { stood := { row := fnExactPathBaseRow, standIns := [], harness := (true, "5964e87684d654027de5d754c330ca244686617572aabb93f177ed1af5ce0d01"), looks := false }, kinds := [], alts := [], laidByText := true, laidKinds := [.data, .pinned], laidTests := true, laidLooks := .later }
def FnExactPathBaseCardSaid : Prop := Claim7.holds Tryd.pinned (.plain (OpenSpec.ofChange fnExactPathBaseSpec)) fnExactPathBaseCard

/-- THE TIED CARD OF 'laws.FnNameOk'. -/
def fnNameOkCard : Claim7 := { stood := { row := fnNameOkRow, standIns := [], harness := (true, "5964e87684d654027de5d754c330ca244686617572aabb93f177ed1af5ce0d01"), looks := false }, kinds := [], alts := [], laidByText := true, laidKinds := [.data, .pinned], laidTests := true, laidLooks := .later }
def FnNameOkCardSaid : Prop := Claim7.holds Tryd.pinned (.plain (OpenSpec.ofChange fnNameOkSpec)) fnNameOkCard

/-- THE TIED CARD OF 'laws.FnExactPathFolder'. -/
def fnExactPathFolderCard : Claim7 := { stood := { row := fnExactPathFolderRow, standIns := [], harness := (true, "5964e87684d654027de5d754c330ca244686617572aabb93f177ed1af5ce0d01"), looks := false }, kinds := [], alts := [], laidByText := true, laidKinds := [.data, .pinned], laidTests := true, laidLooks := .later }
def FnExactPathFolderCardSaid : Prop := Claim7.holds Tryd.pinned (.plain (OpenSpec.ofChange fnExactPathFolderSpec)) fnExactPathFolderCard

/-- THE TIED CARD OF 'laws.FnPathOf'. -/
def fnPathOfCard : Claim7 := { stood := { row := fnPathOfRow, standIns := [], harness := (true, "5964e87684d654027de5d754c330ca244686617572aabb93f177ed1af5ce0d01"), looks := false }, kinds := [], alts := [], laidByText := true, laidKinds := [.data, .pinned], laidTests := true, laidLooks := .later }
def FnPathOfCardSaid : Prop := Claim7.holds Tryd.pinned (.plain (OpenSpec.ofChange fnPathOfSpec)) fnPathOfCard

/-- THE TIED CARD OF 'laws.FnExactPathUnder'. -/
def fnExactPathUnderCard : Claim7 := { stood := { row := fnExactPathUnderRow, standIns := [], harness := (true, "5964e87684d654027de5d754c330ca244686617572aabb93f177ed1af5ce0d01"), looks := false }, kinds := [], alts := [], laidByText := true, laidKinds := [.data, .pinned], laidTests := true, laidLooks := .later }
def FnExactPathUnderCardSaid : Prop := Claim7.holds Tryd.pinned (.plain (OpenSpec.ofChange fnExactPathUnderSpec)) fnExactPathUnderCard

/-- THE TIED CARD OF 'laws.FnExactPathJoin'. -/
def fnExactPathJoinCard : Claim7 := { stood := { row := fnExactPathJoinRow, standIns := [], harness := (true, "5964e87684d654027de5d754c330ca244686617572aabb93f177ed1af5ce0d01"), looks := false }, kinds := [], alts := [], laidByText := true, laidKinds := [.data, .pinned], laidTests := true, laidLooks := .later }
def FnExactPathJoinCardSaid : Prop := Claim7.holds Tryd.pinned (.plain (OpenSpec.ofChange fnExactPathJoinSpec)) fnExactPathJoinCard

/-- THE TIED CARD OF 'laws.FnExactPathNames'. -/
def fnExactPathNamesCard : Claim7 := { stood := { row := fnExactPathNamesRow, standIns := [], harness := (true, "5964e87684d654027de5d754c330ca244686617572aabb93f177ed1af5ce0d01"), looks := false }, kinds := [], alts := [], laidByText := true, laidKinds := [.data, .pinned], laidTests := true, laidLooks := .later }
def FnExactPathNamesCardSaid : Prop := Claim7.holds Tryd.pinned (.plain (OpenSpec.ofChange fnExactPathNamesSpec)) fnExactPathNamesCard

/-- THE TIED CARD OF 'laws.FnExactOpOk'. -/
def fnExactOpOkCard : Claim7 := { stood := { row := fnExactOpOkRow, standIns := [], harness := (true, "5964e87684d654027de5d754c330ca244686617572aabb93f177ed1af5ce0d01"), looks := false }, kinds := [], alts := [], laidByText := true, laidKinds := [.data, .pinned], laidTests := true, laidLooks := .later }
def FnExactOpOkCardSaid : Prop := Claim7.holds Tryd.pinned (.plain (OpenSpec.ofChange fnExactOpOkSpec)) fnExactOpOkCard

/-- THE TIED CARD OF 'laws.FnPathOk'. -/
def fnPathOkCard : Claim7 := { stood := { row := fnPathOkRow, standIns := [], harness := (true, "5964e87684d654027de5d754c330ca244686617572aabb93f177ed1af5ce0d01"), looks := false }, kinds := [], alts := [], laidByText := true, laidKinds := [.data, .pinned], laidTests := true, laidLooks := .later }
def FnPathOkCardSaid : Prop := Claim7.holds Tryd.pinned (.plain (OpenSpec.ofChange fnPathOkSpec)) fnPathOkCard

/-- THE TIED CARD OF 'laws.FnPathBase'. -/
def fnPathBaseCard : Claim7 := { stood := { row := fnPathBaseRow, standIns := [], harness := (true, "5964e87684d654027de5d754c330ca244686617572aabb93f177ed1af5ce0d01"), looks := false }, kinds := [], alts := [], laidByText := true, laidKinds := [.data, .pinned], laidTests := true, laidLooks := .later }
def FnPathBaseCardSaid : Prop := Claim7.holds Tryd.pinned (.plain (OpenSpec.ofChange fnPathBaseSpec)) fnPathBaseCard

/-- THE TIED CARD OF 'laws.FnPathNames'. -/
def fnPathNamesCard : Claim7 := { stood := { row := fnPathNamesRow, standIns := [], harness := (true, "5964e87684d654027de5d754c330ca244686617572aabb93f177ed1af5ce0d01"), looks := false }, kinds := [], alts := [], laidByText := true, laidKinds := [.data, .pinned], laidTests := true, laidLooks := .later }
def FnPathNamesCardSaid : Prop := Claim7.holds Tryd.pinned (.plain (OpenSpec.ofChange fnPathNamesSpec)) fnPathNamesCard

/-- THE TIED CARD OF 'laws.FnPathFolder'. -/
def fnPathFolderCard : Claim7 := { stood := { row := fnPathFolderRow, standIns := [], harness := (true, "5964e87684d654027de5d754c330ca244686617572aabb93f177ed1af5ce0d01"), looks := false }, kinds := [], alts := [], laidByText := true, laidKinds := [.data, .pinned], laidTests := true, laidLooks := .later }
def FnPathFolderCardSaid : Prop := Claim7.holds Tryd.pinned (.plain (OpenSpec.ofChange fnPathFolderSpec)) fnPathFolderCard

/-- THE TIED CARD OF 'laws.FnPathUnder'. -/
def fnPathUnderCard : Claim7 := { stood := { row := fnPathUnderRow, standIns := [], harness := (true, "5964e87684d654027de5d754c330ca244686617572aabb93f177ed1af5ce0d01"), looks := false }, kinds := [], alts := [], laidByText := true, laidKinds := [.data, .pinned], laidTests := true, laidLooks := .later }
def FnPathUnderCardSaid : Prop := Claim7.holds Tryd.pinned (.plain (OpenSpec.ofChange fnPathUnderSpec)) fnPathUnderCard

/-- THE TIED CARD OF 'laws.FnPathJoin'. -/
def fnPathJoinCard : Claim7 := { stood := { row := fnPathJoinRow, standIns := [], harness := (true, "5964e87684d654027de5d754c330ca244686617572aabb93f177ed1af5ce0d01"), looks := false }, kinds := [], alts := [], laidByText := true, laidKinds := [.data, .pinned], laidTests := true, laidLooks := .later }
def FnPathJoinCardSaid : Prop := Claim7.holds Tryd.pinned (.plain (OpenSpec.ofChange fnPathJoinSpec)) fnPathJoinCard

/-- THE SECOND FORM's CARD OF 'laws.FnExactPathOk'. -/
def fnExactPathOkUptoCard : Claim7 := { stood := { row := fnExactPathOkUptoRow, standIns := [], harness := (true, "5964e87684d654027de5d754c330ca244686617572aabb93f177ed1af5ce0d01"), looks := false }, kinds := [], alts := [], laidByText := true, laidKinds := [.data, .pinned], laidTests := true, laidLooks := .later }
def FnExactPathOkUptoCardSaid : Prop := Claim7.holds Tryd.pinned (.plain (OpenSpec.upto fnExactPathOkSpec)) fnExactPathOkUptoCard

/-- THE SECOND FORM's CARD OF 'laws.FnExactPathBase'. -/
def fnExactPathBaseUptoCard : Claim7 := { stood := { row := fnExactPathBaseUptoRow, standIns := [], harness := (true, "5964e87684d654027de5d754c330ca244686617572aabb93f177ed1af5ce0d01"), looks := false }, kinds := [], alts := [], laidByText := true, laidKinds := [.data, .pinned], laidTests := true, laidLooks := .later }
def FnExactPathBaseUptoCardSaid : Prop := Claim7.holds Tryd.pinned (.plain (OpenSpec.upto fnExactPathBaseSpec)) fnExactPathBaseUptoCard

/-- THE SECOND FORM's CARD OF 'laws.FnNameOk'. -/
def fnNameOkUptoCard : Claim7 := { stood := { row := fnNameOkUptoRow, standIns := [], harness := (true, "5964e87684d654027de5d754c330ca244686617572aabb93f177ed1af5ce0d01"), looks := false }, kinds := [], alts := [], laidByText := true, laidKinds := [.data, .pinned], laidTests := true, laidLooks := .later }
def FnNameOkUptoCardSaid : Prop := Claim7.holds Tryd.pinned (.plain (OpenSpec.upto fnNameOkSpec)) fnNameOkUptoCard

/-- THE SECOND FORM's CARD OF 'laws.FnExactPathFolder'. -/
def fnExactPathFolderUptoCard : Claim7 := { stood := { row := fnExactPathFolderUptoRow, standIns := [], harness := (true, "5964e87684d654027de5d754c330ca244686617572aabb93f177ed1af5ce0d01"), looks := false }, kinds := [], alts := [], laidByText := true, laidKinds := [.data, .pinned], laidTests := true, laidLooks := .later }
def FnExactPathFolderUptoCardSaid : Prop := Claim7.holds Tryd.pinned (.plain (OpenSpec.upto fnExactPathFolderSpec)) fnExactPathFolderUptoCard

/-- THE SECOND FORM's CARD OF 'laws.FnPathOf'. -/
def fnPathOfUptoCard : Claim7 := { stood := { row := fnPathOfUptoRow, standIns := [], harness := (true, "5964e87684d654027de5d754c330ca244686617572aabb93f177ed1af5ce0d01"), looks := false }, kinds := [], alts := [], laidByText := true, laidKinds := [.data, .pinned], laidTests := true, laidLooks := .later }
def FnPathOfUptoCardSaid : Prop := Claim7.holds Tryd.pinned (.plain (OpenSpec.upto fnPathOfSpec)) fnPathOfUptoCard

/-- THE SECOND FORM's CARD OF 'laws.FnExactPathUnder'. -/
def fnExactPathUnderUptoCard : Claim7 := { stood := { row := fnExactPathUnderUptoRow, standIns := [], harness := (true, "5964e87684d654027de5d754c330ca244686617572aabb93f177ed1af5ce0d01"), looks := false }, kinds := [], alts := [], laidByText := true, laidKinds := [.data, .pinned], laidTests := true, laidLooks := .later }
def FnExactPathUnderUptoCardSaid : Prop := Claim7.holds Tryd.pinned (.plain (OpenSpec.upto fnExactPathUnderSpec)) fnExactPathUnderUptoCard

/-- THE SECOND FORM's CARD OF 'laws.FnExactPathJoin'. -/
def fnExactPathJoinUptoCard : Claim7 := { stood := { row := fnExactPathJoinUptoRow, standIns := [], harness := (true, "5964e87684d654027de5d754c330ca244686617572aabb93f177ed1af5ce0d01"), looks := false }, kinds := [], alts := [], laidByText := true, laidKinds := [.data, .pinned], laidTests := true, laidLooks := .later }
def FnExactPathJoinUptoCardSaid : Prop := Claim7.holds Tryd.pinned (.plain (OpenSpec.upto fnExactPathJoinSpec)) fnExactPathJoinUptoCard

/-- THE SECOND FORM's CARD OF 'laws.FnExactPathNames'. -/
def fnExactPathNamesUptoCard : Claim7 := { stood := { row := fnExactPathNamesUptoRow, standIns := [], harness := (true, "5964e87684d654027de5d754c330ca244686617572aabb93f177ed1af5ce0d01"), looks := false }, kinds := [], alts := [], laidByText := true, laidKinds := [.data, .pinned], laidTests := true, laidLooks := .later }
def FnExactPathNamesUptoCardSaid : Prop := Claim7.holds Tryd.pinned (.plain (OpenSpec.upto fnExactPathNamesSpec)) fnExactPathNamesUptoCard

/-- THE SECOND FORM's CARD OF 'laws.FnExactOpOk'. -/
def fnExactOpOkUptoCard : Claim7 := { stood := { row := fnExactOpOkUptoRow, standIns := [], harness := (true, "5964e87684d654027de5d754c330ca244686617572aabb93f177ed1af5ce0d01"), looks := false }, kinds := [], alts := [], laidByText := true, laidKinds := [.data, .pinned], laidTests := true, laidLooks := .later }
def FnExactOpOkUptoCardSaid : Prop := Claim7.holds Tryd.pinned (.plain (OpenSpec.upto fnExactOpOkSpec)) fnExactOpOkUptoCard

/-- THE SECOND FORM's CARD OF 'laws.FnPathOk'. -/
def fnPathOkUptoCard : Claim7 := { stood := { row := fnPathOkUptoRow, standIns := [], harness := (true, "5964e87684d654027de5d754c330ca244686617572aabb93f177ed1af5ce0d01"), looks := false }, kinds := [], alts := [], laidByText := true, laidKinds := [.data, .pinned], laidTests := true, laidLooks := .later }
def FnPathOkUptoCardSaid : Prop := Claim7.holds Tryd.pinned (.plain (OpenSpec.upto fnPathOkSpec)) fnPathOkUptoCard

/-- THE SECOND FORM's CARD OF 'laws.FnPathBase'. -/
def fnPathBaseUptoCard : Claim7 := { stood := { row := fnPathBaseUptoRow, standIns := [], harness := (true, "5964e87684d654027de5d754c330ca244686617572aabb93f177ed1af5ce0d01"), looks := false }, kinds := [], alts := [], laidByText := true, laidKinds := [.data, .pinned], laidTests := true, laidLooks := .later }
def FnPathBaseUptoCardSaid : Prop := Claim7.holds Tryd.pinned (.plain (OpenSpec.upto fnPathBaseSpec)) fnPathBaseUptoCard

/-- THE SECOND FORM's CARD OF 'laws.FnPathNames'. -/
def fnPathNamesUptoCard : Claim7 := { stood := { row := fnPathNamesUptoRow, standIns := [], harness := (true, "5964e87684d654027de5d754c330ca244686617572aabb93f177ed1af5ce0d01"), looks := false }, kinds := [], alts := [], laidByText := true, laidKinds := [.data, .pinned], laidTests := true, laidLooks := .later }
def FnPathNamesUptoCardSaid : Prop := Claim7.holds Tryd.pinned (.plain (OpenSpec.upto fnPathNamesSpec)) fnPathNamesUptoCard

/-- THE SECOND FORM's CARD OF 'laws.FnPathFolder'. -/
def fnPathFolderUptoCard : Claim7 := { stood := { row := fnPathFolderUptoRow, standIns := [], harness := (true, "5964e87684d654027de5d754c330ca244686617572aabb93f177ed1af5ce0d01"), looks := false }, kinds := [], alts := [], laidByText := true, laidKinds := [.data, .pinned], laidTests := true, laidLooks := .later }
def FnPathFolderUptoCardSaid : Prop := Claim7.holds Tryd.pinned (.plain (OpenSpec.upto fnPathFolderSpec)) fnPathFolderUptoCard

/-- THE SECOND FORM's CARD OF 'laws.FnPathUnder'. -/
def fnPathUnderUptoCard : Claim7 := { stood := { row := fnPathUnderUptoRow, standIns := [], harness := (true, "5964e87684d654027de5d754c330ca244686617572aabb93f177ed1af5ce0d01"), looks := false }, kinds := [], alts := [], laidByText := true, laidKinds := [.data, .pinned], laidTests := true, laidLooks := .later }
def FnPathUnderUptoCardSaid : Prop := Claim7.holds Tryd.pinned (.plain (OpenSpec.upto fnPathUnderSpec)) fnPathUnderUptoCard

/-- THE SECOND FORM's CARD OF 'laws.FnPathJoin'. -/
def fnPathJoinUptoCard : Claim7 := { stood := { row := fnPathJoinUptoRow, standIns := [], harness := (true, "5964e87684d654027de5d754c330ca244686617572aabb93f177ed1af5ce0d01"), looks := false }, kinds := [], alts := [], laidByText := true, laidKinds := [.data, .pinned], laidTests := true, laidLooks := .later }
def FnPathJoinUptoCardSaid : Prop := Claim7.holds Tryd.pinned (.plain (OpenSpec.upto fnPathJoinSpec)) fnPathJoinUptoCard
end Rows
end Go.Proofs.YtanccfiiemlmeaaDoor
