/-
  No cell of these rows narrows 'for every input' (looked for: loops, veiled, ifaces, maps, wideKeys, modest, calm, conditions, laid).
  DERIVED. THE GIVEN ROWS OF THIS SEAT. 4 by the template 'for every input the law returns true; each argument reads behind the call as it read before'; 0 by the template 'total and deterministic' (their statements: YtkelneckgkjlnaaTotals.lean).
  GIVEN WITH THE SEED: the statements are not yours to turn. If you find one false, say at which input.
  Laid BY PROGRAM, IN A SANDBOX (cutbox-rows.mjs): the forced cells as the released guide's own fill.sh prints them over the translation 4a1378c73044ae8d… (all of the seat's roots in one cut). By AI agents, Wed Nov 11 2026. No macro, syntax, notation, axiom, sorry.
-/
import Derived.Test.YtkelneckgkjlnaaChecked
import GoSem.Claim
import GoSem.ClaimJoined
import GoSem.ClaimMapViews
import Derived.JoinedTies
import Derived.KernelRfl
namespace Go.Proofs.Ytkelneckgkjlnaa
/- THE CELL 'sum', in the pinned program and in every row, IS THE sha256 OF THE DUMP (.gsa) THAT YtkelneckgkjlnaaProg.lean LOADS. Nothing in Lean hashes anything: it is a label: what it is worth is what the hold of that sum in a sandbox is worth. -/
noncomputable def Try.pinned : Pinned := { name := "ytkelneckgkjlnaa", sum := "4a1378c73044ae8d942b9a128c21263c7920899ba0997cbf4cfd5ab33334cab2", checked := Try.checked }
namespace Rows
def none {H : Type} : Left H := { results := [], args := [] }

/-- 'laws.FnExactNodePieces': WHATEVER THE INPUT: true; the input reads as it did. -/
def fnExactNodePiecesSpec : ChangeSpec := { name := "fnExactNodePieces", fn := fun _ => fun
  | [d1, d2] => { results := [.lit (.bool true)], args := [d1, d2] }
  | _ => none }
def fnExactNodePiecesRow : OpenClaim := { program := "ytkelneckgkjlnaa", sum := "4a1378c73044ae8d942b9a128c21263c7920899ba0997cbf4cfd5ab33334cab2", func := "loop.example/poolfiles/laws.FnExactNodePieces", spec := "fnExactNodePieces", apart := false }
def FnExactNodePiecesSaid : Prop := fnExactNodePiecesRow.holds Try.pinned (OpenSpec.ofChange fnExactNodePiecesSpec)

/-- ITS FALSE NEIGHBOUR: 'it returns false'. Refute it at one input. -/
def fnExactNodePiecesWrong : ChangeSpec := { name := "fnExactNodePieces", fn := fun _ => fun
  | [d1, d2] => { results := [.lit (.bool false)], args := [d1, d2] }
  | _ => none }
def FnExactNodePiecesWrongFalsely : Prop := fnExactNodePiecesRow.holds Try.pinned (OpenSpec.ofChange fnExactNodePiecesWrong)

/-- 'laws.FnNodePieces': WHATEVER THE INPUT: true; the input reads as it did. -/
def fnNodePiecesSpec : ChangeSpec := { name := "fnNodePieces", fn := fun _ => fun
  | [d] => { results := [.lit (.bool true)], args := [d] }
  | _ => none }
def fnNodePiecesRow : OpenClaim := { program := "ytkelneckgkjlnaa", sum := "4a1378c73044ae8d942b9a128c21263c7920899ba0997cbf4cfd5ab33334cab2", func := "loop.example/poolfiles/laws.FnNodePieces", spec := "fnNodePieces", apart := false }
def FnNodePiecesSaid : Prop := fnNodePiecesRow.holds Try.pinned (OpenSpec.ofChange fnNodePiecesSpec)

/-- ITS FALSE NEIGHBOUR: 'it returns false'. Refute it at one input. -/
def fnNodePiecesWrong : ChangeSpec := { name := "fnNodePieces", fn := fun _ => fun
  | [d] => { results := [.lit (.bool false)], args := [d] }
  | _ => none }
def FnNodePiecesWrongFalsely : Prop := fnNodePiecesRow.holds Try.pinned (OpenSpec.ofChange fnNodePiecesWrong)

/-- 'laws.FnExactNodeOk': WHATEVER THE INPUT: true; the input reads as it did. -/
def fnExactNodeOkSpec : ChangeSpec := { name := "fnExactNodeOk", fn := fun _ => fun
  | [d] => { results := [.lit (.bool true)], args := [d] }
  | _ => none }
def fnExactNodeOkRow : OpenClaim := { program := "ytkelneckgkjlnaa", sum := "4a1378c73044ae8d942b9a128c21263c7920899ba0997cbf4cfd5ab33334cab2", func := "loop.example/poolfiles/laws.FnExactNodeOk", spec := "fnExactNodeOk", apart := false }
def FnExactNodeOkSaid : Prop := fnExactNodeOkRow.holds Try.pinned (OpenSpec.ofChange fnExactNodeOkSpec)

/-- ITS FALSE NEIGHBOUR: 'it returns false'. Refute it at one input. -/
def fnExactNodeOkWrong : ChangeSpec := { name := "fnExactNodeOk", fn := fun _ => fun
  | [d] => { results := [.lit (.bool false)], args := [d] }
  | _ => none }
def FnExactNodeOkWrongFalsely : Prop := fnExactNodeOkRow.holds Try.pinned (OpenSpec.ofChange fnExactNodeOkWrong)

/-- 'laws.FnExactPieceFill': WHATEVER THE INPUT: true; the input reads as it did. -/
def fnExactPieceFillSpec : ChangeSpec := { name := "fnExactPieceFill", fn := fun _ => fun
  | [d1, d2] => { results := [.lit (.bool true)], args := [d1, d2] }
  | _ => none }
def fnExactPieceFillRow : OpenClaim := { program := "ytkelneckgkjlnaa", sum := "4a1378c73044ae8d942b9a128c21263c7920899ba0997cbf4cfd5ab33334cab2", func := "loop.example/poolfiles/laws.FnExactPieceFill", spec := "fnExactPieceFill", inPlace := ["internal/abi.NoEscape", "internal/bytealg.MakeNoZero"], apart := false }
def FnExactPieceFillSaid : Prop := fnExactPieceFillRow.holds Try.pinned (OpenSpec.ofChange fnExactPieceFillSpec)

/-- ITS FALSE NEIGHBOUR: 'it returns false'. Refute it at one input. -/
def fnExactPieceFillWrong : ChangeSpec := { name := "fnExactPieceFill", fn := fun _ => fun
  | [d1, d2] => { results := [.lit (.bool false)], args := [d1, d2] }
  | _ => none }
def FnExactPieceFillWrongFalsely : Prop := fnExactPieceFillRow.holds Try.pinned (OpenSpec.ofChange fnExactPieceFillWrong)

/- THE SECOND FORM. 'bulk': how many values and letters a reading holds, each counted each time it is reached (what is shared counts as often as it is met; a slice's spare places count too). A statement '..UptoSaid' is the law's where the arguments, and the package variables that the reading takes, are together of bulk at most 1048576: NARROWER than '..Said'. Prove '..Said' where nothing that the law and all that it calls make is longer than what came in: it says more and counts as full. Else prove '..UptoSaid'. A law counts once. -/
mutual
def uptoBulk {H : Type} : DataW H → Nat
  | .lit (.string bytes) => bytes.length + 1
  | .lit _ => 1
  | .nil => 1
  | .ptr d => uptoBulk d + 1
  | .slice elems spare => uptoBulkAll elems + uptoBulkAll spare + 1
  | .agg parts => uptoBulkAll parts + 1
  | .iface _ d => uptoBulk d + 1
  | .map entries => uptoBulkEntries entries + 1
  | .held _ => 1
def uptoBulkAll {H : Type} : List (DataW H) → Nat
  | [] => 0
  | d :: r => uptoBulk d + uptoBulkAll r
def uptoBulkEntries {H : Type} : List (Lit × DataW H) → Nat
  | [] => 0
  | x :: r => uptoBulkEntry x + uptoBulkEntries r
def uptoBulkEntry {H : Type} : Lit × DataW H → Nat
  | (.string bytes, d) => bytes.length + uptoBulk d + 1
  | (_, d) => uptoBulk d + 1
 end
def uptoSmall : (H : Type) → List (DataW H) → Bool := fun _ ds => decide (uptoBulkAll ds ≤ 1048576)
def OpenSpec.upto (s : _root_.Go.ChangeSpec) : _root_.Go.OpenSpec := { _root_.Go.OpenSpec.ofChange s with cond := some uptoSmall }

/-- 'laws.FnExactNodePieces', WHERE WHAT IT READS IS OF BULK AT MOST 1048576: true; the input reads as it did. -/
def fnExactNodePiecesUptoRow : OpenClaim := { program := "ytkelneckgkjlnaa", sum := "4a1378c73044ae8d942b9a128c21263c7920899ba0997cbf4cfd5ab33334cab2", func := "loop.example/poolfiles/laws.FnExactNodePieces", spec := "fnExactNodePieces", apart := false, narrowed := true }
def FnExactNodePiecesUptoSaid : Prop := fnExactNodePiecesUptoRow.holds Try.pinned (OpenSpec.upto fnExactNodePiecesSpec)

/-- 'laws.FnNodePieces', WHERE WHAT IT READS IS OF BULK AT MOST 1048576: true; the input reads as it did. -/
def fnNodePiecesUptoRow : OpenClaim := { program := "ytkelneckgkjlnaa", sum := "4a1378c73044ae8d942b9a128c21263c7920899ba0997cbf4cfd5ab33334cab2", func := "loop.example/poolfiles/laws.FnNodePieces", spec := "fnNodePieces", apart := false, narrowed := true }
def FnNodePiecesUptoSaid : Prop := fnNodePiecesUptoRow.holds Try.pinned (OpenSpec.upto fnNodePiecesSpec)

/-- 'laws.FnExactNodeOk', WHERE WHAT IT READS IS OF BULK AT MOST 1048576: true; the input reads as it did. -/
def fnExactNodeOkUptoRow : OpenClaim := { program := "ytkelneckgkjlnaa", sum := "4a1378c73044ae8d942b9a128c21263c7920899ba0997cbf4cfd5ab33334cab2", func := "loop.example/poolfiles/laws.FnExactNodeOk", spec := "fnExactNodeOk", apart := false, narrowed := true }
def FnExactNodeOkUptoSaid : Prop := fnExactNodeOkUptoRow.holds Try.pinned (OpenSpec.upto fnExactNodeOkSpec)

/-- 'laws.FnExactPieceFill', WHERE WHAT IT READS IS OF BULK AT MOST 1048576: true; the input reads as it did. -/
def fnExactPieceFillUptoRow : OpenClaim := { program := "ytkelneckgkjlnaa", sum := "4a1378c73044ae8d942b9a128c21263c7920899ba0997cbf4cfd5ab33334cab2", func := "loop.example/poolfiles/laws.FnExactPieceFill", spec := "fnExactPieceFill", inPlace := ["internal/abi.NoEscape", "internal/bytealg.MakeNoZero"], apart := false, narrowed := true }
def FnExactPieceFillUptoSaid : Prop := fnExactPieceFillUptoRow.holds Try.pinned (OpenSpec.upto fnExactPieceFillSpec)

end Rows
end Go.Proofs.Ytkelneckgkjlnaa
