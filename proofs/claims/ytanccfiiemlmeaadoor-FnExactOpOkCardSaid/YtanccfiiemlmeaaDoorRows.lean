/-
  NARROWER THAN 'FOR EVERY INPUT', by the rows' own cells (each row's printed sentence says how): FnExactPathOk: laid · FnExactPathBase: laid · FnNameOk: laid · FnExactPathFolder: laid · FnPathOf: laid · FnExactPathUnder: laid · FnExactPathJoin: laid · FnExactPathNames: laid · FnExactOpOk: laid · FnPathOk: laid · FnPathBase: laid · FnPathNames: laid · FnPathFolder: laid · FnPathUnder: laid · FnPathJoin: laid.
  DERIVED. THE GIVEN ROWS OF THIS SEAT. 15 by the template 'for every input the law returns true; each argument reads behind the call as it read before'; 0 by the template 'total and deterministic' (their statements: YtanccfiiemlmeaaDoorTotals.lean).
  GIVEN WITH THE SEED: the statements are not yours to turn. If you find one false, say at which input.
  Laid BY PROGRAM, IN A SANDBOX (cutbox-rows.mjs): the forced cells as the released guide's own fill.sh prints them over the translation f446dd95396c475d… (all of the seat's roots in one cut). By AI agents, Wed Nov 11 2026. No macro, syntax, notation, axiom, sorry.
-/
import Derived.Test.YtanccfiiemlmeaaDoorChecked
import GoSem.PinnedTables
import GoSem.Claim
import GoSem.ClaimJoined
import GoSem.ClaimMapViews
import Derived.JoinedTies
import Derived.KernelRfl
namespace Go.Proofs.YtanccfiiemlmeaaDoor
/- THE CELL 'sum', in the pinned program and in every row, IS THE sha256 OF THE DUMP (.gsa) THAT YtanccfiiemlmeaaDoorProg.lean LOADS. Nothing in Lean hashes anything: it is a label: what it is worth is what the hold of that sum in a sandbox is worth. -/
noncomputable def Tryd.pinned : Pinned := { name := "ytanccfiiemlmeaadoor", sum := "f446dd95396c475d1acb002b1a45f537c117086ba6e7ff4a63ad87fbd583a9a1", checked := Tryd.checked }
namespace Rows
def none {H : Type} : Left H := { results := [], args := [] }

/- WHAT THE LISTED PACKAGE-LEVEL VARIABLES READ AS WHEN THE CALL BEGINS. Each datum BY PROGRAM (the guide's laid-datum.mjs) off the statement by which the dump's own 'gosem.cut.vars' lays the variable. In a bare row this is a premise. The card (YtanccfiiemlmeaaDoorCards.lean) ties it to the program's text. -/
def laid_unicode_utf8_acceptRanges {H : Type} : DataW H := .agg [.agg [.lit (.int .u8 128), .lit (.int .u8 191)], .agg [.lit (.int .u8 160), .lit (.int .u8 191)], .agg [.lit (.int .u8 128), .lit (.int .u8 159)], .agg [.lit (.int .u8 144), .lit (.int .u8 191)], .agg [.lit (.int .u8 128), .lit (.int .u8 143)], .agg [.lit (.int .u8 0), .lit (.int .u8 0)], .agg [.lit (.int .u8 0), .lit (.int .u8 0)], .agg [.lit (.int .u8 0), .lit (.int .u8 0)], .agg [.lit (.int .u8 0), .lit (.int .u8 0)], .agg [.lit (.int .u8 0), .lit (.int .u8 0)], .agg [.lit (.int .u8 0), .lit (.int .u8 0)], .agg [.lit (.int .u8 0), .lit (.int .u8 0)], .agg [.lit (.int .u8 0), .lit (.int .u8 0)], .agg [.lit (.int .u8 0), .lit (.int .u8 0)], .agg [.lit (.int .u8 0), .lit (.int .u8 0)], .agg [.lit (.int .u8 0), .lit (.int .u8 0)]]
/-- One of Go's own tables, pinned by name: the form's constant. -/
def laid_unicode_utf8_first : DataW Unit := Go.Pinned.utf8First

/-- 'laws.FnExactPathOk': WHATEVER THE INPUT: true; the input reads as it did. -/
def fnExactPathOkSpec : ChangeSpec := { name := "fnExactPathOk", fn := fun _ => fun
  | [d] => { results := [.lit (.bool true)], args := [d] }
  | _ => none }
def fnExactPathOkRow : OpenClaim := { program := "ytanccfiiemlmeaadoor", sum := "f446dd95396c475d1acb002b1a45f537c117086ba6e7ff4a63ad87fbd583a9a1", func := "loop.example/poolfiles/laws.FnExactPathOk", spec := "fnExactPathOk", inPlace := ["internal/bytealg.CountString", "internal/bytealg.IndexByteString", "internal/bytealg.IndexString", "internal/abi.NoEscape", "internal/bytealg.MakeNoZero"], unfollowed := true, recurses := true, named := ["unicode/utf8.first", "unicode/utf8.acceptRanges", "internal/bytealg.MaxLen"], apart := false, laid := [("unicode/utf8.acceptRanges", laid_unicode_utf8_acceptRanges), ("unicode/utf8.first", laid_unicode_utf8_first)] }
def FnExactPathOkSaid : Prop := fnExactPathOkRow.holds Tryd.pinned (OpenSpec.ofChange fnExactPathOkSpec)

/-- ITS FALSE NEIGHBOUR: 'it returns false'. Refute it at one input. -/
def fnExactPathOkWrong : ChangeSpec := { name := "fnExactPathOk", fn := fun _ => fun
  | [d] => { results := [.lit (.bool false)], args := [d] }
  | _ => none }
def FnExactPathOkWrongFalsely : Prop := fnExactPathOkRow.holds Tryd.pinned (OpenSpec.ofChange fnExactPathOkWrong)

/-- 'laws.FnExactPathBase': WHATEVER THE INPUT: true; the input reads as it did. -/
def fnExactPathBaseSpec : ChangeSpec := { name := "fnExactPathBase", fn := fun _ => fun
  | [d] => { results := [.lit (.bool true)], args := [d] }
  | _ => none }
def fnExactPathBaseRow : OpenClaim := { program := "ytanccfiiemlmeaadoor", sum := "f446dd95396c475d1acb002b1a45f537c117086ba6e7ff4a63ad87fbd583a9a1", func := "loop.example/poolfiles/laws.FnExactPathBase", spec := "fnExactPathBase", inPlace := ["internal/bytealg.CountString", "internal/bytealg.IndexByteString", "internal/bytealg.IndexString", "internal/abi.NoEscape", "internal/bytealg.MakeNoZero"], unfollowed := true, recurses := true, named := ["unicode/utf8.first", "unicode/utf8.acceptRanges", "internal/bytealg.MaxLen"], apart := false, laid := [("unicode/utf8.acceptRanges", laid_unicode_utf8_acceptRanges), ("unicode/utf8.first", laid_unicode_utf8_first)] }
def FnExactPathBaseSaid : Prop := fnExactPathBaseRow.holds Tryd.pinned (OpenSpec.ofChange fnExactPathBaseSpec)

/-- ITS FALSE NEIGHBOUR: 'it returns false'. Refute it at one input. -/
def fnExactPathBaseWrong : ChangeSpec := { name := "fnExactPathBase", fn := fun _ => fun
  | [d] => { results := [.lit (.bool false)], args := [d] }
  | _ => none }
def FnExactPathBaseWrongFalsely : Prop := fnExactPathBaseRow.holds Tryd.pinned (OpenSpec.ofChange fnExactPathBaseWrong)

/-- 'laws.FnNameOk': WHATEVER THE INPUT: true; the input reads as it did. -/
def fnNameOkSpec : ChangeSpec := { name := "fnNameOk", fn := fun _ => fun
  | [d] => { results := [.lit (.bool true)], args := [d] }
  | _ => none }
def fnNameOkRow : OpenClaim := { program := "ytanccfiiemlmeaadoor", sum := "f446dd95396c475d1acb002b1a45f537c117086ba6e7ff4a63ad87fbd583a9a1", func := "loop.example/poolfiles/laws.FnNameOk", spec := "fnNameOk", inPlace := ["internal/bytealg.CountString", "internal/bytealg.IndexByteString", "internal/bytealg.IndexString", "internal/abi.NoEscape", "internal/bytealg.MakeNoZero"], unfollowed := true, recurses := true, named := ["unicode/utf8.first", "unicode/utf8.acceptRanges", "internal/bytealg.MaxLen"], apart := false, laid := [("unicode/utf8.acceptRanges", laid_unicode_utf8_acceptRanges), ("unicode/utf8.first", laid_unicode_utf8_first)] }
def FnNameOkSaid : Prop := fnNameOkRow.holds Tryd.pinned (OpenSpec.ofChange fnNameOkSpec)

/-- ITS FALSE NEIGHBOUR: 'it returns false'. Refute it at one input. -/
def fnNameOkWrong : ChangeSpec := { name := "fnNameOk", fn := fun _ => fun
  | [d] => { results := [.lit (.bool false)], args := [d] }
  | _ => none }
def FnNameOkWrongFalsely : Prop := fnNameOkRow.holds Tryd.pinned (OpenSpec.ofChange fnNameOkWrong)

/-- 'laws.FnExactPathFolder': WHATEVER THE INPUT: true; the input reads as it did. -/
def fnExactPathFolderSpec : ChangeSpec := { name := "fnExactPathFolder", fn := fun _ => fun
  | [d] => { results := [.lit (.bool true)], args := [d] }
  | _ => none }
def fnExactPathFolderRow : OpenClaim := { program := "ytanccfiiemlmeaadoor", sum := "f446dd95396c475d1acb002b1a45f537c117086ba6e7ff4a63ad87fbd583a9a1", func := "loop.example/poolfiles/laws.FnExactPathFolder", spec := "fnExactPathFolder", inPlace := ["internal/bytealg.CountString", "internal/bytealg.IndexByteString", "internal/bytealg.IndexString", "internal/abi.NoEscape", "internal/bytealg.MakeNoZero"], unfollowed := true, recurses := true, named := ["unicode/utf8.first", "unicode/utf8.acceptRanges", "internal/bytealg.MaxLen"], apart := false, laid := [("unicode/utf8.acceptRanges", laid_unicode_utf8_acceptRanges), ("unicode/utf8.first", laid_unicode_utf8_first)] }
def FnExactPathFolderSaid : Prop := fnExactPathFolderRow.holds Tryd.pinned (OpenSpec.ofChange fnExactPathFolderSpec)

/-- ITS FALSE NEIGHBOUR: 'it returns false'. Refute it at one input. -/
def fnExactPathFolderWrong : ChangeSpec := { name := "fnExactPathFolder", fn := fun _ => fun
  | [d] => { results := [.lit (.bool false)], args := [d] }
  | _ => none }
def FnExactPathFolderWrongFalsely : Prop := fnExactPathFolderRow.holds Tryd.pinned (OpenSpec.ofChange fnExactPathFolderWrong)

/-- 'laws.FnPathOf': WHATEVER THE INPUT: true; the input reads as it did. -/
def fnPathOfSpec : ChangeSpec := { name := "fnPathOf", fn := fun _ => fun
  | [d] => { results := [.lit (.bool true)], args := [d] }
  | _ => none }
def fnPathOfRow : OpenClaim := { program := "ytanccfiiemlmeaadoor", sum := "f446dd95396c475d1acb002b1a45f537c117086ba6e7ff4a63ad87fbd583a9a1", func := "loop.example/poolfiles/laws.FnPathOf", spec := "fnPathOf", inPlace := ["internal/abi.NoEscape", "internal/bytealg.MakeNoZero", "internal/bytealg.CountString", "internal/bytealg.IndexByteString", "internal/bytealg.IndexString"], unfollowed := true, recurses := true, named := ["unicode/utf8.first", "unicode/utf8.acceptRanges", "internal/bytealg.MaxLen"], apart := false, laid := [("unicode/utf8.acceptRanges", laid_unicode_utf8_acceptRanges), ("unicode/utf8.first", laid_unicode_utf8_first)] }
def FnPathOfSaid : Prop := fnPathOfRow.holds Tryd.pinned (OpenSpec.ofChange fnPathOfSpec)

/-- ITS FALSE NEIGHBOUR: 'it returns false'. Refute it at one input. -/
def fnPathOfWrong : ChangeSpec := { name := "fnPathOf", fn := fun _ => fun
  | [d] => { results := [.lit (.bool false)], args := [d] }
  | _ => none }
def FnPathOfWrongFalsely : Prop := fnPathOfRow.holds Tryd.pinned (OpenSpec.ofChange fnPathOfWrong)

/-- 'laws.FnExactPathUnder': WHATEVER THE INPUT: true; the input reads as it did. -/
def fnExactPathUnderSpec : ChangeSpec := { name := "fnExactPathUnder", fn := fun _ => fun
  | [d1, d2] => { results := [.lit (.bool true)], args := [d1, d2] }
  | _ => none }
def fnExactPathUnderRow : OpenClaim := { program := "ytanccfiiemlmeaadoor", sum := "f446dd95396c475d1acb002b1a45f537c117086ba6e7ff4a63ad87fbd583a9a1", func := "loop.example/poolfiles/laws.FnExactPathUnder", spec := "fnExactPathUnder", inPlace := ["internal/bytealg.CountString", "internal/bytealg.IndexByteString", "internal/bytealg.IndexString", "internal/abi.NoEscape", "internal/bytealg.MakeNoZero"], unfollowed := true, recurses := true, named := ["unicode/utf8.first", "unicode/utf8.acceptRanges", "internal/bytealg.MaxLen"], apart := false, laid := [("unicode/utf8.acceptRanges", laid_unicode_utf8_acceptRanges), ("unicode/utf8.first", laid_unicode_utf8_first)] }
def FnExactPathUnderSaid : Prop := fnExactPathUnderRow.holds Tryd.pinned (OpenSpec.ofChange fnExactPathUnderSpec)

/-- ITS FALSE NEIGHBOUR: 'it returns false'. Refute it at one input. -/
def fnExactPathUnderWrong : ChangeSpec := { name := "fnExactPathUnder", fn := fun _ => fun
  | [d1, d2] => { results := [.lit (.bool false)], args := [d1, d2] }
  | _ => none }
def FnExactPathUnderWrongFalsely : Prop := fnExactPathUnderRow.holds Tryd.pinned (OpenSpec.ofChange fnExactPathUnderWrong)

/-- 'laws.FnExactPathJoin': WHATEVER THE INPUT: true; the input reads as it did. -/
def fnExactPathJoinSpec : ChangeSpec := { name := "fnExactPathJoin", fn := fun _ => fun
  | [d1, d2] => { results := [.lit (.bool true)], args := [d1, d2] }
  | _ => none }
def fnExactPathJoinRow : OpenClaim := { program := "ytanccfiiemlmeaadoor", sum := "f446dd95396c475d1acb002b1a45f537c117086ba6e7ff4a63ad87fbd583a9a1", func := "loop.example/poolfiles/laws.FnExactPathJoin", spec := "fnExactPathJoin", inPlace := ["internal/bytealg.CountString", "internal/bytealg.IndexByteString", "internal/bytealg.IndexString", "internal/abi.NoEscape", "internal/bytealg.MakeNoZero"], unfollowed := true, recurses := true, named := ["unicode/utf8.first", "unicode/utf8.acceptRanges", "internal/bytealg.MaxLen"], apart := false, laid := [("unicode/utf8.acceptRanges", laid_unicode_utf8_acceptRanges), ("unicode/utf8.first", laid_unicode_utf8_first)] }
def FnExactPathJoinSaid : Prop := fnExactPathJoinRow.holds Tryd.pinned (OpenSpec.ofChange fnExactPathJoinSpec)

/-- ITS FALSE NEIGHBOUR: 'it returns false'. Refute it at one input. -/
def fnExactPathJoinWrong : ChangeSpec := { name := "fnExactPathJoin", fn := fun _ => fun
  | [d1, d2] => { results := [.lit (.bool false)], args := [d1, d2] }
  | _ => none }
def FnExactPathJoinWrongFalsely : Prop := fnExactPathJoinRow.holds Tryd.pinned (OpenSpec.ofChange fnExactPathJoinWrong)

/-- 'laws.FnExactPathNames': WHATEVER THE INPUT: true; the input reads as it did. -/
def fnExactPathNamesSpec : ChangeSpec := { name := "fnExactPathNames", fn := fun _ => fun
  | [d] => { results := [.lit (.bool true)], args := [d] }
  | _ => none }
def fnExactPathNamesRow : OpenClaim := { program := "ytanccfiiemlmeaadoor", sum := "f446dd95396c475d1acb002b1a45f537c117086ba6e7ff4a63ad87fbd583a9a1", func := "loop.example/poolfiles/laws.FnExactPathNames", spec := "fnExactPathNames", inPlace := ["internal/bytealg.CountString", "internal/bytealg.IndexByteString", "internal/bytealg.IndexString", "internal/abi.NoEscape", "internal/bytealg.MakeNoZero"], unfollowed := true, recurses := true, named := ["unicode/utf8.first", "unicode/utf8.acceptRanges", "internal/bytealg.MaxLen"], apart := false, laid := [("unicode/utf8.acceptRanges", laid_unicode_utf8_acceptRanges), ("unicode/utf8.first", laid_unicode_utf8_first)] }
def FnExactPathNamesSaid : Prop := fnExactPathNamesRow.holds Tryd.pinned (OpenSpec.ofChange fnExactPathNamesSpec)

/-- ITS FALSE NEIGHBOUR: 'it returns false'. Refute it at one input. -/
def fnExactPathNamesWrong : ChangeSpec := { name := "fnExactPathNames", fn := fun _ => fun
  | [d] => { results := [.lit (.bool false)], args := [d] }
  | _ => none }
def FnExactPathNamesWrongFalsely : Prop := fnExactPathNamesRow.holds Tryd.pinned (OpenSpec.ofChange fnExactPathNamesWrong)

/-- 'laws.FnExactOpOk': WHATEVER THE INPUT: true; the input reads as it did. -/
def fnExactOpOkSpec : ChangeSpec := { name := "fnExactOpOk", fn := fun _ => fun
  | [d] => { results := [.lit (.bool true)], args := [d] }
  | _ => none }
def fnExactOpOkRow : OpenClaim := { program := "ytanccfiiemlmeaadoor", sum := "f446dd95396c475d1acb002b1a45f537c117086ba6e7ff4a63ad87fbd583a9a1", func := "loop.example/poolfiles/laws.FnExactOpOk", spec := "fnExactOpOk", inPlace := ["internal/bytealg.CountString", "internal/bytealg.IndexByteString", "internal/bytealg.IndexString", "internal/abi.NoEscape", "internal/bytealg.MakeNoZero"], unfollowed := true, recurses := true, named := ["unicode/utf8.first", "unicode/utf8.acceptRanges", "internal/bytealg.MaxLen"], apart := false, laid := [("unicode/utf8.acceptRanges", laid_unicode_utf8_acceptRanges), ("unicode/utf8.first", laid_unicode_utf8_first)] }
def FnExactOpOkSaid : Prop := fnExactOpOkRow.holds Tryd.pinned (OpenSpec.ofChange fnExactOpOkSpec)

/-- ITS FALSE NEIGHBOUR: 'it returns false'. Refute it at one input. -/
def fnExactOpOkWrong : ChangeSpec := { name := "fnExactOpOk", fn := fun _ => fun
  | [d] => { results := [.lit (.bool false)], args := [d] }
  | _ => none }
def FnExactOpOkWrongFalsely : Prop := fnExactOpOkRow.holds Tryd.pinned (OpenSpec.ofChange fnExactOpOkWrong)

/-- 'laws.FnPathOk': WHATEVER THE INPUT: true; the input reads as it did. -/
def fnPathOkSpec : ChangeSpec := { name := "fnPathOk", fn := fun _ => fun
  | [d] => { results := [.lit (.bool true)], args := [d] }
  | _ => none }
def fnPathOkRow : OpenClaim := { program := "ytanccfiiemlmeaadoor", sum := "f446dd95396c475d1acb002b1a45f537c117086ba6e7ff4a63ad87fbd583a9a1", func := "loop.example/poolfiles/laws.FnPathOk", spec := "fnPathOk", inPlace := ["internal/bytealg.CountString", "internal/bytealg.IndexByteString", "internal/bytealg.IndexString", "internal/abi.NoEscape", "internal/bytealg.MakeNoZero"], unfollowed := true, recurses := true, named := ["unicode/utf8.first", "unicode/utf8.acceptRanges", "internal/bytealg.MaxLen"], apart := false, laid := [("unicode/utf8.acceptRanges", laid_unicode_utf8_acceptRanges), ("unicode/utf8.first", laid_unicode_utf8_first)] }
def FnPathOkSaid : Prop := fnPathOkRow.holds Tryd.pinned (OpenSpec.ofChange fnPathOkSpec)

/-- ITS FALSE NEIGHBOUR: 'it returns false'. Refute it at one input. -/
def fnPathOkWrong : ChangeSpec := { name := "fnPathOk", fn := fun _ => fun
  | [d] => { results := [.lit (.bool false)], args := [d] }
  | _ => none }
def FnPathOkWrongFalsely : Prop := fnPathOkRow.holds Tryd.pinned (OpenSpec.ofChange fnPathOkWrong)

/-- 'laws.FnPathBase': WHATEVER THE INPUT: true; the input reads as it did. -/
def fnPathBaseSpec : ChangeSpec := { name := "fnPathBase", fn := fun _ => fun
  | [d] => { results := [.lit (.bool true)], args := [d] }
  | _ => none }
def fnPathBaseRow : OpenClaim := { program := "ytanccfiiemlmeaadoor", sum := "f446dd95396c475d1acb002b1a45f537c117086ba6e7ff4a63ad87fbd583a9a1", func := "loop.example/poolfiles/laws.FnPathBase", spec := "fnPathBase", inPlace := ["internal/bytealg.CountString", "internal/bytealg.IndexByteString", "internal/bytealg.IndexString", "internal/abi.NoEscape", "internal/bytealg.MakeNoZero"], unfollowed := true, recurses := true, named := ["unicode/utf8.first", "unicode/utf8.acceptRanges", "internal/bytealg.MaxLen"], apart := false, laid := [("unicode/utf8.acceptRanges", laid_unicode_utf8_acceptRanges), ("unicode/utf8.first", laid_unicode_utf8_first)] }
def FnPathBaseSaid : Prop := fnPathBaseRow.holds Tryd.pinned (OpenSpec.ofChange fnPathBaseSpec)

/-- ITS FALSE NEIGHBOUR: 'it returns false'. Refute it at one input. -/
def fnPathBaseWrong : ChangeSpec := { name := "fnPathBase", fn := fun _ => fun
  | [d] => { results := [.lit (.bool false)], args := [d] }
  | _ => none }
def FnPathBaseWrongFalsely : Prop := fnPathBaseRow.holds Tryd.pinned (OpenSpec.ofChange fnPathBaseWrong)

/-- 'laws.FnPathNames': WHATEVER THE INPUT: true; the input reads as it did. -/
def fnPathNamesSpec : ChangeSpec := { name := "fnPathNames", fn := fun _ => fun
  | [d] => { results := [.lit (.bool true)], args := [d] }
  | _ => none }
def fnPathNamesRow : OpenClaim := { program := "ytanccfiiemlmeaadoor", sum := "f446dd95396c475d1acb002b1a45f537c117086ba6e7ff4a63ad87fbd583a9a1", func := "loop.example/poolfiles/laws.FnPathNames", spec := "fnPathNames", inPlace := ["internal/bytealg.CountString", "internal/bytealg.IndexByteString", "internal/bytealg.IndexString", "internal/abi.NoEscape", "internal/bytealg.MakeNoZero"], unfollowed := true, recurses := true, named := ["unicode/utf8.first", "unicode/utf8.acceptRanges", "internal/bytealg.MaxLen"], apart := false, laid := [("unicode/utf8.acceptRanges", laid_unicode_utf8_acceptRanges), ("unicode/utf8.first", laid_unicode_utf8_first)] }
def FnPathNamesSaid : Prop := fnPathNamesRow.holds Tryd.pinned (OpenSpec.ofChange fnPathNamesSpec)

/-- ITS FALSE NEIGHBOUR: 'it returns false'. Refute it at one input. -/
def fnPathNamesWrong : ChangeSpec := { name := "fnPathNames", fn := fun _ => fun
  | [d] => { results := [.lit (.bool false)], args := [d] }
  | _ => none }
def FnPathNamesWrongFalsely : Prop := fnPathNamesRow.holds Tryd.pinned (OpenSpec.ofChange fnPathNamesWrong)

/-- 'laws.FnPathFolder': WHATEVER THE INPUT: true; the input reads as it did. -/
def fnPathFolderSpec : ChangeSpec := { name := "fnPathFolder", fn := fun _ => fun
  | [d] => { results := [.lit (.bool true)], args := [d] }
  | _ => none }
def fnPathFolderRow : OpenClaim := { program := "ytanccfiiemlmeaadoor", sum := "f446dd95396c475d1acb002b1a45f537c117086ba6e7ff4a63ad87fbd583a9a1", func := "loop.example/poolfiles/laws.FnPathFolder", spec := "fnPathFolder", inPlace := ["internal/bytealg.CountString", "internal/bytealg.IndexByteString", "internal/bytealg.IndexString", "internal/abi.NoEscape", "internal/bytealg.MakeNoZero"], unfollowed := true, recurses := true, named := ["unicode/utf8.first", "unicode/utf8.acceptRanges", "internal/bytealg.MaxLen"], apart := false, laid := [("unicode/utf8.acceptRanges", laid_unicode_utf8_acceptRanges), ("unicode/utf8.first", laid_unicode_utf8_first)] }
def FnPathFolderSaid : Prop := fnPathFolderRow.holds Tryd.pinned (OpenSpec.ofChange fnPathFolderSpec)

/-- ITS FALSE NEIGHBOUR: 'it returns false'. Refute it at one input. -/
def fnPathFolderWrong : ChangeSpec := { name := "fnPathFolder", fn := fun _ => fun
  | [d] => { results := [.lit (.bool false)], args := [d] }
  | _ => none }
def FnPathFolderWrongFalsely : Prop := fnPathFolderRow.holds Tryd.pinned (OpenSpec.ofChange fnPathFolderWrong)

/-- 'laws.FnPathUnder': WHATEVER THE INPUT: true; the input reads as it did. -/
def fnPathUnderSpec : ChangeSpec := { name := "fnPathUnder", fn := fun _ => fun
  | [d] => { results := [.lit (.bool true)], args := [d] }
  | _ => none }
def fnPathUnderRow : OpenClaim := { program := "ytanccfiiemlmeaadoor", sum := "f446dd95396c475d1acb002b1a45f537c117086ba6e7ff4a63ad87fbd583a9a1", func := "loop.example/poolfiles/laws.FnPathUnder", spec := "fnPathUnder", inPlace := ["internal/bytealg.CountString", "internal/bytealg.IndexByteString", "internal/bytealg.IndexString", "internal/abi.NoEscape", "internal/bytealg.MakeNoZero"], unfollowed := true, recurses := true, named := ["unicode/utf8.first", "unicode/utf8.acceptRanges", "internal/bytealg.MaxLen"], apart := false, laid := [("unicode/utf8.acceptRanges", laid_unicode_utf8_acceptRanges), ("unicode/utf8.first", laid_unicode_utf8_first)] }
def FnPathUnderSaid : Prop := fnPathUnderRow.holds Tryd.pinned (OpenSpec.ofChange fnPathUnderSpec)

/-- ITS FALSE NEIGHBOUR: 'it returns false'. Refute it at one input. -/
def fnPathUnderWrong : ChangeSpec := { name := "fnPathUnder", fn := fun _ => fun
  | [d] => { results := [.lit (.bool false)], args := [d] }
  | _ => none }
def FnPathUnderWrongFalsely : Prop := fnPathUnderRow.holds Tryd.pinned (OpenSpec.ofChange fnPathUnderWrong)

/-- 'laws.FnPathJoin': WHATEVER THE INPUT: true; the input reads as it did. -/
def fnPathJoinSpec : ChangeSpec := { name := "fnPathJoin", fn := fun _ => fun
  | [d] => { results := [.lit (.bool true)], args := [d] }
  | _ => none }
def fnPathJoinRow : OpenClaim := { program := "ytanccfiiemlmeaadoor", sum := "f446dd95396c475d1acb002b1a45f537c117086ba6e7ff4a63ad87fbd583a9a1", func := "loop.example/poolfiles/laws.FnPathJoin", spec := "fnPathJoin", inPlace := ["internal/bytealg.CountString", "internal/bytealg.IndexByteString", "internal/bytealg.IndexString", "internal/abi.NoEscape", "internal/bytealg.MakeNoZero"], unfollowed := true, recurses := true, named := ["unicode/utf8.first", "unicode/utf8.acceptRanges", "internal/bytealg.MaxLen"], apart := false, laid := [("unicode/utf8.acceptRanges", laid_unicode_utf8_acceptRanges), ("unicode/utf8.first", laid_unicode_utf8_first)] }
def FnPathJoinSaid : Prop := fnPathJoinRow.holds Tryd.pinned (OpenSpec.ofChange fnPathJoinSpec)

/-- ITS FALSE NEIGHBOUR: 'it returns false'. Refute it at one input. -/
def fnPathJoinWrong : ChangeSpec := { name := "fnPathJoin", fn := fun _ => fun
  | [d] => { results := [.lit (.bool false)], args := [d] }
  | _ => none }
def FnPathJoinWrongFalsely : Prop := fnPathJoinRow.holds Tryd.pinned (OpenSpec.ofChange fnPathJoinWrong)

/- THE SECOND FORM. 'bulk': how many values and letters a reading holds, each counted each time it is reached (what is shared counts as often as it is met; a slice's spare places count too). A statement '..UptoSaid' is the law's where the arguments, and the package variables that the reading takes, are together of bulk at most 1048576: NARROWER than '..Said'. Prove '..Said' where nothing that the law and all that it calls make is longer than what came in: it says more and counts as full. Else prove '..UptoSaid'. A law counts once. -/
mutual
def uptoBulk {H : Type} : DataW H → Nat
  | .lit (.string bytes) => bytes.length + 1
  | .lit _ => 1
  | .nil => 1
  | .ptr d => uptoBulk d + 1
  | .slice elems spare => uptoBulkAll elems + uptoBulkAll spare + 1
  | .agg parts => uptoBulkAll parts + 1
  | .iface _ d => uptoBulk d + 1
  | .map entries => uptoBulkEntries entries + 1
  | .held _ => 1
def uptoBulkAll {H : Type} : List (DataW H) → Nat
  | [] => 0
  | d :: r => uptoBulk d + uptoBulkAll r
def uptoBulkEntries {H : Type} : List (Lit × DataW H) → Nat
  | [] => 0
  | x :: r => uptoBulkEntry x + uptoBulkEntries r
def uptoBulkEntry {H : Type} : Lit × DataW H → Nat
  | (.string bytes, d) => bytes.length + uptoBulk d + 1
  | (_, d) => uptoBulk d + 1
 end
def uptoSmall : (H : Type) → List (DataW H) → Bool := fun _ ds => decide (uptoBulkAll ds ≤ 1048576)
def OpenSpec.upto (s : _root_.Go.ChangeSpec) : _root_.Go.OpenSpec := { _root_.Go.OpenSpec.ofChange s with cond := some uptoSmall }

/-- 'laws.FnExactPathOk', WHERE WHAT IT READS IS OF BULK AT MOST 1048576: true; the input reads as it did. -/
def fnExactPathOkUptoRow : OpenClaim := { program := "ytanccfiiemlmeaadoor", sum := "f446dd95396c475d1acb002b1a45f537c117086ba6e7ff4a63ad87fbd583a9a1", func := "loop.example/poolfiles/laws.FnExactPathOk", spec := "fnExactPathOk", inPlace := ["internal/bytealg.CountString", "internal/bytealg.IndexByteString", "internal/bytealg.IndexString", "internal/abi.NoEscape", "internal/bytealg.MakeNoZero"], unfollowed := true, recurses := true, named := ["unicode/utf8.first", "unicode/utf8.acceptRanges", "internal/bytealg.MaxLen"], apart := false, laid := [("unicode/utf8.acceptRanges", laid_unicode_utf8_acceptRanges), ("unicode/utf8.first", laid_unicode_utf8_first)], narrowed := true }
def FnExactPathOkUptoSaid : Prop := fnExactPathOkUptoRow.holds Tryd.pinned (OpenSpec.upto fnExactPathOkSpec)

/-- 'laws.FnExactPathBase', WHERE WHAT IT READS IS OF BULK AT MOST 1048576: true; the input reads as it did. -/
def fnExactPathBaseUptoRow : OpenClaim := { program := "ytanccfiiemlmeaadoor", sum := "f446dd95396c475d1acb002b1a45f537c117086ba6e7ff4a63ad87fbd583a9a1", func := "loop.example/poolfiles/laws.FnExactPathBase", spec := "fnExactPathBase", inPlace := ["internal/bytealg.CountString", "internal/bytealg.IndexByteString", "internal/bytealg.IndexString", "internal/abi.NoEscape", "internal/bytealg.MakeNoZero"], unfollowed := true, recurses := true, named := ["unicode/utf8.first", "unicode/utf8.acceptRanges", "internal/bytealg.MaxLen"], apart := false, laid := [("unicode/utf8.acceptRanges", laid_unicode_utf8_acceptRanges), ("unicode/utf8.first", laid_unicode_utf8_first)], narrowed := true }
def FnExactPathBaseUptoSaid : Prop := fnExactPathBaseUptoRow.holds Tryd.pinned (OpenSpec.upto fnExactPathBaseSpec)

/-- 'laws.FnNameOk', WHERE WHAT IT READS IS OF BULK AT MOST 1048576: true; the input reads as it did. -/
def fnNameOkUptoRow : OpenClaim := { program := "ytanccfiiemlmeaadoor", sum := "f446dd95396c475d1acb002b1a45f537c117086ba6e7ff4a63ad87fbd583a9a1", func := "loop.example/poolfiles/laws.FnNameOk", spec := "fnNameOk", inPlace := ["internal/bytealg.CountString", "internal/bytealg.IndexByteString", "internal/bytealg.IndexString", "internal/abi.NoEscape", "internal/bytealg.MakeNoZero"], unfollowed := true, recurses := true, named := ["unicode/utf8.first", "unicode/utf8.acceptRanges", "internal/bytealg.MaxLen"], apart := false, laid := [("unicode/utf8.acceptRanges", laid_unicode_utf8_acceptRanges), ("unicode/utf8.first", laid_unicode_utf8_first)], narrowed := true }
def FnNameOkUptoSaid : Prop := fnNameOkUptoRow.holds Tryd.pinned (OpenSpec.upto fnNameOkSpec)

/-- 'laws.FnExactPathFolder', WHERE WHAT IT READS IS OF BULK AT MOST 1048576: true; the input reads as it did. -/
def fnExactPathFolderUptoRow : OpenClaim := { program := "ytanccfiiemlmeaadoor", sum := "f446dd95396c475d1acb002b1a45f537c117086ba6e7ff4a63ad87fbd583a9a1", func := "loop.example/poolfiles/laws.FnExactPathFolder", spec := "fnExactPathFolder", inPlace := ["internal/bytealg.CountString", "internal/bytealg.IndexByteString", "internal/bytealg.IndexString", "internal/abi.NoEscape", "internal/bytealg.MakeNoZero"], unfollowed := true, recurses := true, named := ["unicode/utf8.first", "unicode/utf8.acceptRanges", "internal/bytealg.MaxLen"], apart := false, laid := [("unicode/utf8.acceptRanges", laid_unicode_utf8_acceptRanges), ("unicode/utf8.first", laid_unicode_utf8_first)], narrowed := true }
def FnExactPathFolderUptoSaid : Prop := fnExactPathFolderUptoRow.holds Tryd.pinned (OpenSpec.upto fnExactPathFolderSpec)

/-- 'laws.FnPathOf', WHERE WHAT IT READS IS OF BULK AT MOST 1048576: true; the input reads as it did. -/
def fnPathOfUptoRow : OpenClaim := { program := "ytanccfiiemlmeaadoor", sum := "f446dd95396c475d1acb002b1a45f537c117086ba6e7ff4a63ad87fbd583a9a1", func := "loop.example/poolfiles/laws.FnPathOf", spec := "fnPathOf", inPlace := ["internal/abi.NoEscape", "internal/bytealg.MakeNoZero", "internal/bytealg.CountString", "internal/bytealg.IndexByteString", "internal/bytealg.IndexString"], unfollowed := true, recurses := true, named := ["unicode/utf8.first", "unicode/utf8.acceptRanges", "internal/bytealg.MaxLen"], apart := false, laid := [("unicode/utf8.acceptRanges", laid_unicode_utf8_acceptRanges), ("unicode/utf8.first", laid_unicode_utf8_first)], narrowed := true }
def FnPathOfUptoSaid : Prop := fnPathOfUptoRow.holds Tryd.pinned (OpenSpec.upto fnPathOfSpec)

/-- 'laws.FnExactPathUnder', WHERE WHAT IT READS IS OF BULK AT MOST 1048576: true; the input reads as it did. -/
def fnExactPathUnderUptoRow : OpenClaim := { program := "ytanccfiiemlmeaadoor", sum := "f446dd95396c475d1acb002b1a45f537c117086ba6e7ff4a63ad87fbd583a9a1", func := "loop.example/poolfiles/laws.FnExactPathUnder", spec := "fnExactPathUnder", inPlace := ["internal/bytealg.CountString", "internal/bytealg.IndexByteString", "internal/bytealg.IndexString", "internal/abi.NoEscape", "internal/bytealg.MakeNoZero"], unfollowed := true, recurses := true, named := ["unicode/utf8.first", "unicode/utf8.acceptRanges", "internal/bytealg.MaxLen"], apart := false, laid := [("unicode/utf8.acceptRanges", laid_unicode_utf8_acceptRanges), ("unicode/utf8.first", laid_unicode_utf8_first)], narrowed := true }
def FnExactPathUnderUptoSaid : Prop := fnExactPathUnderUptoRow.holds Tryd.pinned (OpenSpec.upto fnExactPathUnderSpec)

/-- 'laws.FnExactPathJoin', WHERE WHAT IT READS IS OF BULK AT MOST 1048576: true; the input reads as it did. -/
def fnExactPathJoinUptoRow : OpenClaim := { program := "ytanccfiiemlmeaadoor", sum := "f446dd95396c475d1acb002b1a45f537c117086ba6e7ff4a63ad87fbd583a9a1", func := "loop.example/poolfiles/laws.FnExactPathJoin", spec := "fnExactPathJoin", inPlace := ["internal/bytealg.CountString", "internal/bytealg.IndexByteString", "internal/bytealg.IndexString", "internal/abi.NoEscape", "internal/bytealg.MakeNoZero"], unfollowed := true, recurses := true, named := ["unicode/utf8.first", "unicode/utf8.acceptRanges", "internal/bytealg.MaxLen"], apart := false, laid := [("unicode/utf8.acceptRanges", laid_unicode_utf8_acceptRanges), ("unicode/utf8.first", laid_unicode_utf8_first)], narrowed := true }
def FnExactPathJoinUptoSaid : Prop := fnExactPathJoinUptoRow.holds Tryd.pinned (OpenSpec.upto fnExactPathJoinSpec)

/-- 'laws.FnExactPathNames', WHERE WHAT IT READS IS OF BULK AT MOST 1048576: true; the input reads as it did. -/
def fnExactPathNamesUptoRow : OpenClaim := { program := "ytanccfiiemlmeaadoor", sum := "f446dd95396c475d1acb002b1a45f537c117086ba6e7ff4a63ad87fbd583a9a1", func := "loop.example/poolfiles/laws.FnExactPathNames", spec := "fnExactPathNames", inPlace := ["internal/bytealg.CountString", "internal/bytealg.IndexByteString", "internal/bytealg.IndexString", "internal/abi.NoEscape", "internal/bytealg.MakeNoZero"], unfollowed := true, recurses := true, named := ["unicode/utf8.first", "unicode/utf8.acceptRanges", "internal/bytealg.MaxLen"], apart := false, laid := [("unicode/utf8.acceptRanges", laid_unicode_utf8_acceptRanges), ("unicode/utf8.first", laid_unicode_utf8_first)], narrowed := true }
def FnExactPathNamesUptoSaid : Prop := fnExactPathNamesUptoRow.holds Tryd.pinned (OpenSpec.upto fnExactPathNamesSpec)

/-- 'laws.FnExactOpOk', WHERE WHAT IT READS IS OF BULK AT MOST 1048576: true; the input reads as it did. -/
def fnExactOpOkUptoRow : OpenClaim := { program := "ytanccfiiemlmeaadoor", sum := "f446dd95396c475d1acb002b1a45f537c117086ba6e7ff4a63ad87fbd583a9a1", func := "loop.example/poolfiles/laws.FnExactOpOk", spec := "fnExactOpOk", inPlace := ["internal/bytealg.CountString", "internal/bytealg.IndexByteString", "internal/bytealg.IndexString", "internal/abi.NoEscape", "internal/bytealg.MakeNoZero"], unfollowed := true, recurses := true, named := ["unicode/utf8.first", "unicode/utf8.acceptRanges", "internal/bytealg.MaxLen"], apart := false, laid := [("unicode/utf8.acceptRanges", laid_unicode_utf8_acceptRanges), ("unicode/utf8.first", laid_unicode_utf8_first)], narrowed := true }
def FnExactOpOkUptoSaid : Prop := fnExactOpOkUptoRow.holds Tryd.pinned (OpenSpec.upto fnExactOpOkSpec)

/-- 'laws.FnPathOk', WHERE WHAT IT READS IS OF BULK AT MOST 1048576: true; the input reads as it did. -/
def fnPathOkUptoRow : OpenClaim := { program := "ytanccfiiemlmeaadoor", sum := "f446dd95396c475d1acb002b1a45f537c117086ba6e7ff4a63ad87fbd583a9a1", func := "loop.example/poolfiles/laws.FnPathOk", spec := "fnPathOk", inPlace := ["internal/bytealg.CountString", "internal/bytealg.IndexByteString", "internal/bytealg.IndexString", "internal/abi.NoEscape", "internal/bytealg.MakeNoZero"], unfollowed := true, recurses := true, named := ["unicode/utf8.first", "unicode/utf8.acceptRanges", "internal/bytealg.MaxLen"], apart := false, laid := [("unicode/utf8.acceptRanges", laid_unicode_utf8_acceptRanges), ("unicode/utf8.first", laid_unicode_utf8_first)], narrowed := true }
def FnPathOkUptoSaid : Prop := fnPathOkUptoRow.holds Tryd.pinned (OpenSpec.upto fnPathOkSpec)

/-- 'laws.FnPathBase', WHERE WHAT IT READS IS OF BULK AT MOST 1048576: true; the input reads as it did. -/
def fnPathBaseUptoRow : OpenClaim := { program := "ytanccfiiemlmeaadoor", sum := "f446dd95396c475d1acb002b1a45f537c117086ba6e7ff4a63ad87fbd583a9a1", func := "loop.example/poolfiles/laws.FnPathBase", spec := "fnPathBase", inPlace := ["internal/bytealg.CountString", "internal/bytealg.IndexByteString", "internal/bytealg.IndexString", "internal/abi.NoEscape", "internal/bytealg.MakeNoZero"], unfollowed := true, recurses := true, named := ["unicode/utf8.first", "unicode/utf8.acceptRanges", "internal/bytealg.MaxLen"], apart := false, laid := [("unicode/utf8.acceptRanges", laid_unicode_utf8_acceptRanges), ("unicode/utf8.first", laid_unicode_utf8_first)], narrowed := true }
def FnPathBaseUptoSaid : Prop := fnPathBaseUptoRow.holds Tryd.pinned (OpenSpec.upto fnPathBaseSpec)

/-- 'laws.FnPathNames', WHERE WHAT IT READS IS OF BULK AT MOST 1048576: true; the input reads as it did. -/
def fnPathNamesUptoRow : OpenClaim := { program := "ytanccfiiemlmeaadoor", sum := "f446dd95396c475d1acb002b1a45f537c117086ba6e7ff4a63ad87fbd583a9a1", func := "loop.example/poolfiles/laws.FnPathNames", spec := "fnPathNames", inPlace := ["internal/bytealg.CountString", "internal/bytealg.IndexByteString", "internal/bytealg.IndexString", "internal/abi.NoEscape", "internal/bytealg.MakeNoZero"], unfollowed := true, recurses := true, named := ["unicode/utf8.first", "unicode/utf8.acceptRanges", "internal/bytealg.MaxLen"], apart := false, laid := [("unicode/utf8.acceptRanges", laid_unicode_utf8_acceptRanges), ("unicode/utf8.first", laid_unicode_utf8_first)], narrowed := true }
def FnPathNamesUptoSaid : Prop := fnPathNamesUptoRow.holds Tryd.pinned (OpenSpec.upto fnPathNamesSpec)

/-- 'laws.FnPathFolder', WHERE WHAT IT READS IS OF BULK AT MOST 1048576: true; the input reads as it did. -/
def fnPathFolderUptoRow : OpenClaim := { program := "ytanccfiiemlmeaadoor", sum := "f446dd95396c475d1acb002b1a45f537c117086ba6e7ff4a63ad87fbd583a9a1", func := "loop.example/poolfiles/laws.FnPathFolder", spec := "fnPathFolder", inPlace := ["internal/bytealg.CountString", "internal/bytealg.IndexByteString", "internal/bytealg.IndexString", "internal/abi.NoEscape", "internal/bytealg.MakeNoZero"], unfollowed := true, recurses := true, named := ["unicode/utf8.first", "unicode/utf8.acceptRanges", "internal/bytealg.MaxLen"], apart := false, laid := [("unicode/utf8.acceptRanges", laid_unicode_utf8_acceptRanges), ("unicode/utf8.first", laid_unicode_utf8_first)], narrowed := true }
def FnPathFolderUptoSaid : Prop := fnPathFolderUptoRow.holds Tryd.pinned (OpenSpec.upto fnPathFolderSpec)

/-- 'laws.FnPathUnder', WHERE WHAT IT READS IS OF BULK AT MOST 1048576: true; the input reads as it did. -/
def fnPathUnderUptoRow : OpenClaim := { program := "ytanccfiiemlmeaadoor", sum := "f446dd95396c475d1acb002b1a45f537c117086ba6e7ff4a63ad87fbd583a9a1", func := "loop.example/poolfiles/laws.FnPathUnder", spec := "fnPathUnder", inPlace := ["internal/bytealg.CountString", "internal/bytealg.IndexByteString", "internal/bytealg.IndexString", "internal/abi.NoEscape", "internal/bytealg.MakeNoZero"], unfollowed := true, recurses := true, named := ["unicode/utf8.first", "unicode/utf8.acceptRanges", "internal/bytealg.MaxLen"], apart := false, laid := [("unicode/utf8.acceptRanges", laid_unicode_utf8_acceptRanges), ("unicode/utf8.first", laid_unicode_utf8_first)], narrowed := true }
def FnPathUnderUptoSaid : Prop := fnPathUnderUptoRow.holds Tryd.pinned (OpenSpec.upto fnPathUnderSpec)

/-- 'laws.FnPathJoin', WHERE WHAT IT READS IS OF BULK AT MOST 1048576: true; the input reads as it did. -/
def fnPathJoinUptoRow : OpenClaim := { program := "ytanccfiiemlmeaadoor", sum := "f446dd95396c475d1acb002b1a45f537c117086ba6e7ff4a63ad87fbd583a9a1", func := "loop.example/poolfiles/laws.FnPathJoin", spec := "fnPathJoin", inPlace := ["internal/bytealg.CountString", "internal/bytealg.IndexByteString", "internal/bytealg.IndexString", "internal/abi.NoEscape", "internal/bytealg.MakeNoZero"], unfollowed := true, recurses := true, named := ["unicode/utf8.first", "unicode/utf8.acceptRanges", "internal/bytealg.MaxLen"], apart := false, laid := [("unicode/utf8.acceptRanges", laid_unicode_utf8_acceptRanges), ("unicode/utf8.first", laid_unicode_utf8_first)], narrowed := true }
def FnPathJoinUptoSaid : Prop := fnPathJoinUptoRow.holds Tryd.pinned (OpenSpec.upto fnPathJoinSpec)

end Rows
end Go.Proofs.YtanccfiiemlmeaaDoor
