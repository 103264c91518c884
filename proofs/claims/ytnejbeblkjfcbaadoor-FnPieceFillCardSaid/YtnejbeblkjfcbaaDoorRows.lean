/-
  NARROWER THAN 'FOR EVERY INPUT', by the rows' own cells (each row's printed sentence says how): FnExactPieceCut: laid · FnPieceFill: laid · FnPieceCut: laid.
  DERIVED. THE GIVEN ROWS OF THIS SEAT. 3 by the template 'for every input the law returns true; each argument reads behind the call as it read before'; 0 by the template 'total and deterministic' (their statements: YtnejbeblkjfcbaaDoorTotals.lean).
  GIVEN WITH THE SEED: the statements are not yours to turn. If you find one false, say at which input.
  Laid BY PROGRAM, IN A SANDBOX (cutbox-rows.mjs): the forced cells as the released guide's own fill.sh prints them over the translation da6a84d1dbe87906… (all of the seat's roots in one cut). By AI agents, Wed Nov 11 2026. No macro, syntax, notation, axiom, sorry.
-/
import Derived.Test.YtnejbeblkjfcbaaDoorChecked
import GoSem.PinnedTables
import GoSem.Claim
import GoSem.ClaimJoined
import GoSem.ClaimMapViews
import Derived.JoinedTies
import Derived.KernelRfl
namespace Go.Proofs.YtnejbeblkjfcbaaDoor
/- THE CELL 'sum', in the pinned program and in every row, IS THE sha256 OF THE DUMP (.gsa) THAT YtnejbeblkjfcbaaDoorProg.lean LOADS. Nothing in Lean hashes anything: it is a label: what it is worth is what the hold of that sum in a sandbox is worth. -/
noncomputable def Tryd.pinned : Pinned := { name := "ytnejbeblkjfcbaadoor", sum := "da6a84d1dbe87906c76c11150a7281dbfc121696b766dcc9d08bc1139c62981a", checked := Tryd.checked }
namespace Rows
def none {H : Type} : Left H := { results := [], args := [] }

/- WHAT THE LISTED PACKAGE-LEVEL VARIABLES READ AS WHEN THE CALL BEGINS. Each datum BY PROGRAM (the guide's laid-datum.mjs) off the statement by which the dump's own 'gosem.cut.vars' lays the variable. In a bare row this is a premise. The card (YtnejbeblkjfcbaaDoorCards.lean) ties it to the program's text. -/
def laid_unicode_utf8_acceptRanges {H : Type} : DataW H := .agg [.agg [.lit (.int .u8 128), .lit (.int .u8 191)], .agg [.lit (.int .u8 160), .lit (.int .u8 191)], .agg [.lit (.int .u8 128), .lit (.int .u8 159)], .agg [.lit (.int .u8 144), .lit (.int .u8 191)], .agg [.lit (.int .u8 128), .lit (.int .u8 143)], .agg [.lit (.int .u8 0), .lit (.int .u8 0)], .agg [.lit (.int .u8 0), .lit (.int .u8 0)], .agg [.lit (.int .u8 0), .lit (.int .u8 0)], .agg [.lit (.int .u8 0), .lit (.int .u8 0)], .agg [.lit (.int .u8 0), .lit (.int .u8 0)], .agg [.lit (.int .u8 0), .lit (.int .u8 0)], .agg [.lit (.int .u8 0), .lit (.int .u8 0)], .agg [.lit (.int .u8 0), .lit (.int .u8 0)], .agg [.lit (.int .u8 0), .lit (.int .u8 0)], .agg [.lit (.int .u8 0), .lit (.int .u8 0)], .agg [.lit (.int .u8 0), .lit (.int .u8 0)]]
/-- One of Go's own tables, pinned by name: the form's constant. -/
def laid_unicode_utf8_first : DataW Unit := Go.Pinned.utf8First

/-- 'laws.FnExactPieceCut': WHATEVER THE INPUT: true; the input reads as it did. -/
def fnExactPieceCutSpec : ChangeSpec := { name := "fnExactPieceCut", fn := fun _ => fun
  | [d] => { results := [.lit (.bool true)], args := [d] }
  | _ => none }
def fnExactPieceCutRow : OpenClaim := { program := "ytnejbeblkjfcbaadoor", sum := "da6a84d1dbe87906c76c11150a7281dbfc121696b766dcc9d08bc1139c62981a", func := "loop.example/poolfiles/laws.FnExactPieceCut", spec := "fnExactPieceCut", inPlace := ["internal/bytealg.IndexByteString", "internal/bytealg.IndexString"], named := ["unicode/utf8.first", "unicode/utf8.acceptRanges", "internal/bytealg.MaxLen"], apart := false, laid := [("unicode/utf8.acceptRanges", laid_unicode_utf8_acceptRanges), ("unicode/utf8.first", laid_unicode_utf8_first)] }
def FnExactPieceCutSaid : Prop := fnExactPieceCutRow.holds Tryd.pinned (OpenSpec.ofChange fnExactPieceCutSpec)

/-- ITS FALSE NEIGHBOUR: 'it returns false'. Refute it at one input. -/
def fnExactPieceCutWrong : ChangeSpec := { name := "fnExactPieceCut", fn := fun _ => fun
  | [d] => { results := [.lit (.bool false)], args := [d] }
  | _ => none }
def FnExactPieceCutWrongFalsely : Prop := fnExactPieceCutRow.holds Tryd.pinned (OpenSpec.ofChange fnExactPieceCutWrong)

/-- 'laws.FnPieceFill': WHATEVER THE INPUT: true; the input reads as it did. -/
def fnPieceFillSpec : ChangeSpec := { name := "fnPieceFill", fn := fun _ => fun
  | [d] => { results := [.lit (.bool true)], args := [d] }
  | _ => none }
def fnPieceFillRow : OpenClaim := { program := "ytnejbeblkjfcbaadoor", sum := "da6a84d1dbe87906c76c11150a7281dbfc121696b766dcc9d08bc1139c62981a", func := "loop.example/poolfiles/laws.FnPieceFill", spec := "fnPieceFill", inPlace := ["internal/abi.NoEscape", "internal/bytealg.MakeNoZero", "internal/bytealg.IndexByteString", "internal/bytealg.IndexString"], named := ["unicode/utf8.first", "unicode/utf8.acceptRanges", "internal/bytealg.MaxLen"], apart := false, laid := [("unicode/utf8.acceptRanges", laid_unicode_utf8_acceptRanges), ("unicode/utf8.first", laid_unicode_utf8_first)] }
def FnPieceFillSaid : Prop := fnPieceFillRow.holds Tryd.pinned (OpenSpec.ofChange fnPieceFillSpec)

/-- ITS FALSE NEIGHBOUR: 'it returns false'. Refute it at one input. -/
def fnPieceFillWrong : ChangeSpec := { name := "fnPieceFill", fn := fun _ => fun
  | [d] => { results := [.lit (.bool false)], args := [d] }
  | _ => none }
def FnPieceFillWrongFalsely : Prop := fnPieceFillRow.holds Tryd.pinned (OpenSpec.ofChange fnPieceFillWrong)

/-- 'laws.FnPieceCut': WHATEVER THE INPUT: true; the input reads as it did. -/
def fnPieceCutSpec : ChangeSpec := { name := "fnPieceCut", fn := fun _ => fun
  | [d] => { results := [.lit (.bool true)], args := [d] }
  | _ => none }
def fnPieceCutRow : OpenClaim := { program := "ytnejbeblkjfcbaadoor", sum := "da6a84d1dbe87906c76c11150a7281dbfc121696b766dcc9d08bc1139c62981a", func := "loop.example/poolfiles/laws.FnPieceCut", spec := "fnPieceCut", inPlace := ["internal/bytealg.IndexByteString", "internal/bytealg.IndexString", "internal/abi.NoEscape", "internal/bytealg.MakeNoZero"], named := ["unicode/utf8.first", "unicode/utf8.acceptRanges", "internal/bytealg.MaxLen"], apart := false, laid := [("unicode/utf8.acceptRanges", laid_unicode_utf8_acceptRanges), ("unicode/utf8.first", laid_unicode_utf8_first)] }
def FnPieceCutSaid : Prop := fnPieceCutRow.holds Tryd.pinned (OpenSpec.ofChange fnPieceCutSpec)

/-- ITS FALSE NEIGHBOUR: 'it returns false'. Refute it at one input. -/
def fnPieceCutWrong : ChangeSpec := { name := "fnPieceCut", fn := fun _ => fun
  | [d] => { results := [.lit (.bool false)], args := [d] }
  | _ => none }
def FnPieceCutWrongFalsely : Prop := fnPieceCutRow.holds Tryd.pinned (OpenSpec.ofChange fnPieceCutWrong)

/- THE SECOND FORM. 'bulk': how many values and letters a reading holds, each counted each time it is reached (what is shared counts as often as it is met; a slice's spare places count too). A statement '..UptoSaid' is the law's where the arguments, and the package variables that the reading takes, are together of bulk at most 1048576: NARROWER than '..Said'. Prove '..Said' where nothing that the law and all that it calls make is longer than what came in: it says more and counts as full. Else prove '..UptoSaid'. A law counts once. -/
mutual
def uptoBulk {H : Type} : DataW H → Nat
  | .lit (.string bytes) => bytes.length + 1
  | .lit _ => 1
  | .nil => 1
  | .ptr d => uptoBulk d + 1
  | .slice elems spare => uptoBulkAll elems + uptoBulkAll spare + 1
  | .agg parts => uptoBulkAll parts + 1
  | .iface _ d => uptoBulk d + 1
  | .map entries => uptoBulkEntries entries + 1
  | .held _ => 1
def uptoBulkAll {H : Type} : List (DataW H) → Nat
  | [] => 0
  | d :: r => uptoBulk d + uptoBulkAll r
def uptoBulkEntries {H : Type} : List (Lit × DataW H) → Nat
  | [] => 0
  | x :: r => uptoBulkEntry x + uptoBulkEntries r
def uptoBulkEntry {H : Type} : Lit × DataW H → Nat
  | (.string bytes, d) => bytes.length + uptoBulk d + 1
  | (_, d) => uptoBulk d + 1
 end
def uptoSmall : (H : Type) → List (DataW H) → Bool := fun _ ds => decide (uptoBulkAll ds ≤ 1048576)
def OpenSpec.upto (s : _root_.Go.ChangeSpec) : _root_.Go.OpenSpec := { _root_.Go.OpenSpec.ofChange s with cond := some uptoSmall }

/-- 'laws.FnExactPieceCut', WHERE WHAT IT READS IS OF BULK AT MOST 1048576: true; the input reads as it did. -/
def fnExactPieceCutUptoRow : OpenClaim := { program := "ytnejbeblkjfcbaadoor", sum := "da6a84d1dbe87906c76c11150a7281dbfc121696b766dcc9d08bc1139c62981a", func := "loop.example/poolfiles/laws.FnExactPieceCut", spec := "fnExactPieceCut", inPlace := ["internal/bytealg.IndexByteString", "internal/bytealg.IndexString"], named := ["unicode/utf8.first", "unicode/utf8.acceptRanges", "internal/bytealg.MaxLen"], apart := false, laid := [("unicode/utf8.acceptRanges", laid_unicode_utf8_acceptRanges), ("unicode/utf8.first", laid_unicode_utf8_first)], narrowed := true }
def FnExactPieceCutUptoSaid : Prop := fnExactPieceCutUptoRow.holds Tryd.pinned (OpenSpec.upto fnExactPieceCutSpec)

/-- 'laws.FnPieceFill', WHERE WHAT IT READS IS OF BULK AT MOST 1048576: true; the input reads as it did. -/
def fnPieceFillUptoRow : OpenClaim := { program := "ytnejbeblkjfcbaadoor", sum := "da6a84d1dbe87906c76c11150a7281dbfc121696b766dcc9d08bc1139c62981a", func := "loop.example/poolfiles/laws.FnPieceFill", spec := "fnPieceFill", inPlace := ["internal/abi.NoEscape", "internal/bytealg.MakeNoZero", "internal/bytealg.IndexByteString", "internal/bytealg.IndexString"], named := ["unicode/utf8.first", "unicode/utf8.acceptRanges", "internal/bytealg.MaxLen"], apart := false, laid := [("unicode/utf8.acceptRanges", laid_unicode_utf8_acceptRanges), ("unicode/utf8.first", laid_unicode_utf8_first)], narrowed := true }
def FnPieceFillUptoSaid : Prop := fnPieceFillUptoRow.holds Tryd.pinned (OpenSpec.upto fnPieceFillSpec)

/-- 'laws.FnPieceCut', WHERE WHAT IT READS IS OF BULK AT MOST 1048576: true; the input reads as it did. -/
def fnPieceCutUptoRow : OpenClaim := { program := "ytnejbeblkjfcbaadoor", sum := "da6a84d1dbe87906c76c11150a7281dbfc121696b766dcc9d08bc1139c62981a", func := "loop.example/poolfiles/laws.FnPieceCut", spec := "fnPieceCut", inPlace := ["internal/bytealg.IndexByteString", "internal/bytealg.IndexString", "internal/abi.NoEscape", "internal/bytealg.MakeNoZero"], named := ["unicode/utf8.first", "unicode/utf8.acceptRanges", "internal/bytealg.MaxLen"], apart := false, laid := [("unicode/utf8.acceptRanges", laid_unicode_utf8_acceptRanges), ("unicode/utf8.first", laid_unicode_utf8_first)], narrowed := true }
def FnPieceCutUptoSaid : Prop := fnPieceCutUptoRow.holds Tryd.pinned (OpenSpec.upto fnPieceCutSpec)

end Rows
end Go.Proofs.YtnejbeblkjfcbaaDoor
