/-
  No cell of these rows narrows 'for every input' (looked for: loops, veiled, ifaces, maps, wideKeys, modest, calm, conditions, laid).
  DERIVED. THE GIVEN ROWS OF THIS SEAT. 9 by the template 'for every input the law returns true; each argument reads behind the call as it read before'; 0 by the template 'total and deterministic' (their statements: YtdjpacfcimifdaaTotals.lean).
  GIVEN WITH THE SEED: the statements are not yours to turn. If you find one false, say at which input.
  Laid BY PROGRAM, IN A SANDBOX (cutbox-rows.mjs): the forced cells as the released guide's own fill.sh prints them over the translation fb121546425aac98… (all of the seat's roots in one cut). By AI agents, Wed Nov 11 2026. No macro, syntax, notation, axiom, sorry.
-/
import Derived.Test.YtdjpacfcimifdaaChecked
import GoSem.Claim
import GoSem.ClaimJoined
import GoSem.ClaimMapViews
import Derived.JoinedTies
import Derived.KernelRfl
namespace Go.Proofs.Ytdjpacfcimifdaa
/- THE CELL 'sum', in the pinned program and in every row, IS THE sha256 OF THE DUMP (.gsa) THAT YtdjpacfcimifdaaProg.lean LOADS. Nothing in Lean hashes anything: it is a label: what it is worth is what the hold of that sum in a sandbox is worth. -/
noncomputable def Try.pinned : Pinned := { name := "ytdjpacfcimifdaa", sum := "fb121546425aac983e2c5be535e20bc4b0bfaa08bc7d60c23e91a516fafff4fe", checked := Try.checked }
namespace Rows
def none {H : Type} : Left H := { results := [], args := [] }

/-- 'laws.FnExactNameOk': WHATEVER THE INPUT: true; the input reads as it did. -/
def fnExactNameOkSpec : ChangeSpec := { name := "fnExactNameOk", fn := fun _ => fun
  | [d] => { results := [.lit (.bool true)], args := [d] }
  | _ => none }
def fnExactNameOkRow : OpenClaim := { program := "ytdjpacfcimifdaa", sum := "fb121546425aac983e2c5be535e20bc4b0bfaa08bc7d60c23e91a516fafff4fe", func := "loop.example/poolfiles/laws.FnExactNameOk", spec := "fnExactNameOk", unfollowed := true, recurses := true, apart := false }
def FnExactNameOkSaid : Prop := fnExactNameOkRow.holds Try.pinned (OpenSpec.ofChange fnExactNameOkSpec)

/-- ITS FALSE NEIGHBOUR: 'it returns false'. Refute it at one input. -/
def fnExactNameOkWrong : ChangeSpec := { name := "fnExactNameOk", fn := fun _ => fun
  | [d] => { results := [.lit (.bool false)], args := [d] }
  | _ => none }
def FnExactNameOkWrongFalsely : Prop := fnExactNameOkRow.holds Try.pinned (OpenSpec.ofChange fnExactNameOkWrong)

/-- 'laws.FnExactEntriesOk': WHATEVER THE INPUT: true; the input reads as it did. -/
def fnExactEntriesOkSpec : ChangeSpec := { name := "fnExactEntriesOk", fn := fun _ => fun
  | [d] => { results := [.lit (.bool true)], args := [d] }
  | _ => none }
def fnExactEntriesOkRow : OpenClaim := { program := "ytdjpacfcimifdaa", sum := "fb121546425aac983e2c5be535e20bc4b0bfaa08bc7d60c23e91a516fafff4fe", func := "loop.example/poolfiles/laws.FnExactEntriesOk", spec := "fnExactEntriesOk", unfollowed := true, recurses := true, apart := false }
def FnExactEntriesOkSaid : Prop := fnExactEntriesOkRow.holds Try.pinned (OpenSpec.ofChange fnExactEntriesOkSpec)

/-- ITS FALSE NEIGHBOUR: 'it returns false'. Refute it at one input. -/
def fnExactEntriesOkWrong : ChangeSpec := { name := "fnExactEntriesOk", fn := fun _ => fun
  | [d] => { results := [.lit (.bool false)], args := [d] }
  | _ => none }
def FnExactEntriesOkWrongFalsely : Prop := fnExactEntriesOkRow.holds Try.pinned (OpenSpec.ofChange fnExactEntriesOkWrong)

/-- 'laws.FnExactEntriesFind': WHATEVER THE INPUT: true; the input reads as it did. -/
def fnExactEntriesFindSpec : ChangeSpec := { name := "fnExactEntriesFind", fn := fun _ => fun
  | [d1, d2] => { results := [.lit (.bool true)], args := [d1, d2] }
  | _ => none }
def fnExactEntriesFindRow : OpenClaim := { program := "ytdjpacfcimifdaa", sum := "fb121546425aac983e2c5be535e20bc4b0bfaa08bc7d60c23e91a516fafff4fe", func := "loop.example/poolfiles/laws.FnExactEntriesFind", spec := "fnExactEntriesFind", inPlace := ["internal/bytealg.abigen_runtime_cmpstring"], unfollowed := true, recurses := true, apart := false }
def FnExactEntriesFindSaid : Prop := fnExactEntriesFindRow.holds Try.pinned (OpenSpec.ofChange fnExactEntriesFindSpec)

/-- ITS FALSE NEIGHBOUR: 'it returns false'. Refute it at one input. -/
def fnExactEntriesFindWrong : ChangeSpec := { name := "fnExactEntriesFind", fn := fun _ => fun
  | [d1, d2] => { results := [.lit (.bool false)], args := [d1, d2] }
  | _ => none }
def FnExactEntriesFindWrongFalsely : Prop := fnExactEntriesFindRow.holds Try.pinned (OpenSpec.ofChange fnExactEntriesFindWrong)

/-- 'laws.FnExactEntriesLess': WHATEVER THE INPUT: true; the input reads as it did. -/
def fnExactEntriesLessSpec : ChangeSpec := { name := "fnExactEntriesLess", fn := fun _ => fun
  | [d1, d2] => { results := [.lit (.bool true)], args := [d1, d2] }
  | _ => none }
def fnExactEntriesLessRow : OpenClaim := { program := "ytdjpacfcimifdaa", sum := "fb121546425aac983e2c5be535e20bc4b0bfaa08bc7d60c23e91a516fafff4fe", func := "loop.example/poolfiles/laws.FnExactEntriesLess", spec := "fnExactEntriesLess", inPlace := ["internal/bytealg.abigen_runtime_cmpstring"], unfollowed := true, recurses := true, apart := false }
def FnExactEntriesLessSaid : Prop := fnExactEntriesLessRow.holds Try.pinned (OpenSpec.ofChange fnExactEntriesLessSpec)

/-- ITS FALSE NEIGHBOUR: 'it returns false'. Refute it at one input. -/
def fnExactEntriesLessWrong : ChangeSpec := { name := "fnExactEntriesLess", fn := fun _ => fun
  | [d1, d2] => { results := [.lit (.bool false)], args := [d1, d2] }
  | _ => none }
def FnExactEntriesLessWrongFalsely : Prop := fnExactEntriesLessRow.holds Try.pinned (OpenSpec.ofChange fnExactEntriesLessWrong)

/-- 'laws.FnEntriesLess': WHATEVER THE INPUT: true; the input reads as it did. -/
def fnEntriesLessSpec : ChangeSpec := { name := "fnEntriesLess", fn := fun _ => fun
  | [d] => { results := [.lit (.bool true)], args := [d] }
  | _ => none }
def fnEntriesLessRow : OpenClaim := { program := "ytdjpacfcimifdaa", sum := "fb121546425aac983e2c5be535e20bc4b0bfaa08bc7d60c23e91a516fafff4fe", func := "loop.example/poolfiles/laws.FnEntriesLess", spec := "fnEntriesLess", inPlace := ["internal/bytealg.abigen_runtime_cmpstring"], unfollowed := true, recurses := true, apart := false }
def FnEntriesLessSaid : Prop := fnEntriesLessRow.holds Try.pinned (OpenSpec.ofChange fnEntriesLessSpec)

/-- ITS FALSE NEIGHBOUR: 'it returns false'. Refute it at one input. -/
def fnEntriesLessWrong : ChangeSpec := { name := "fnEntriesLess", fn := fun _ => fun
  | [d] => { results := [.lit (.bool false)], args := [d] }
  | _ => none }
def FnEntriesLessWrongFalsely : Prop := fnEntriesLessRow.holds Try.pinned (OpenSpec.ofChange fnEntriesLessWrong)

/-- 'laws.FnEntriesOrder': WHATEVER THE INPUT: true; the input reads as it did. -/
def fnEntriesOrderSpec : ChangeSpec := { name := "fnEntriesOrder", fn := fun _ => fun
  | [d1, d2] => { results := [.lit (.bool true)], args := [d1, d2] }
  | _ => none }
def fnEntriesOrderRow : OpenClaim := { program := "ytdjpacfcimifdaa", sum := "fb121546425aac983e2c5be535e20bc4b0bfaa08bc7d60c23e91a516fafff4fe", func := "loop.example/poolfiles/laws.FnEntriesOrder", spec := "fnEntriesOrder", inPlace := ["internal/bytealg.abigen_runtime_cmpstring", "slices.overlaps[loop.example/poolfiles/impl.Entry]"], unfollowed := true, recurses := true, apart := false }
def FnEntriesOrderSaid : Prop := fnEntriesOrderRow.holds Try.pinned (OpenSpec.ofChange fnEntriesOrderSpec)

/-- ITS FALSE NEIGHBOUR: 'it returns false'. Refute it at one input. -/
def fnEntriesOrderWrong : ChangeSpec := { name := "fnEntriesOrder", fn := fun _ => fun
  | [d1, d2] => { results := [.lit (.bool false)], args := [d1, d2] }
  | _ => none }
def FnEntriesOrderWrongFalsely : Prop := fnEntriesOrderRow.holds Try.pinned (OpenSpec.ofChange fnEntriesOrderWrong)

/-- 'laws.FnEntriesFind': WHATEVER THE INPUT: true; the input reads as it did. -/
def fnEntriesFindSpec : ChangeSpec := { name := "fnEntriesFind", fn := fun _ => fun
  | [d] => { results := [.lit (.bool true)], args := [d] }
  | _ => none }
def fnEntriesFindRow : OpenClaim := { program := "ytdjpacfcimifdaa", sum := "fb121546425aac983e2c5be535e20bc4b0bfaa08bc7d60c23e91a516fafff4fe", func := "loop.example/poolfiles/laws.FnEntriesFind", spec := "fnEntriesFind", inPlace := ["internal/bytealg.abigen_runtime_cmpstring", "slices.overlaps[loop.example/poolfiles/impl.Entry]"], unfollowed := true, recurses := true, apart := false }
def FnEntriesFindSaid : Prop := fnEntriesFindRow.holds Try.pinned (OpenSpec.ofChange fnEntriesFindSpec)

/-- ITS FALSE NEIGHBOUR: 'it returns false'. Refute it at one input. -/
def fnEntriesFindWrong : ChangeSpec := { name := "fnEntriesFind", fn := fun _ => fun
  | [d] => { results := [.lit (.bool false)], args := [d] }
  | _ => none }
def FnEntriesFindWrongFalsely : Prop := fnEntriesFindRow.holds Try.pinned (OpenSpec.ofChange fnEntriesFindWrong)

/-- 'laws.FnExactEntriesAdd': WHATEVER THE INPUT: true; the input reads as it did. -/
def fnExactEntriesAddSpec : ChangeSpec := { name := "fnExactEntriesAdd", fn := fun _ => fun
  | [d1, d2, d3] => { results := [.lit (.bool true)], args := [d1, d2, d3] }
  | _ => none }
def fnExactEntriesAddRow : OpenClaim := { program := "ytdjpacfcimifdaa", sum := "fb121546425aac983e2c5be535e20bc4b0bfaa08bc7d60c23e91a516fafff4fe", func := "loop.example/poolfiles/laws.FnExactEntriesAdd", spec := "fnExactEntriesAdd", inPlace := ["internal/bytealg.abigen_runtime_cmpstring", "slices.overlaps[loop.example/poolfiles/impl.Entry]"], unfollowed := true, recurses := true, apart := false }
def FnExactEntriesAddSaid : Prop := fnExactEntriesAddRow.holds Try.pinned (OpenSpec.ofChange fnExactEntriesAddSpec)

/-- ITS FALSE NEIGHBOUR: 'it returns false'. Refute it at one input. -/
def fnExactEntriesAddWrong : ChangeSpec := { name := "fnExactEntriesAdd", fn := fun _ => fun
  | [d1, d2, d3] => { results := [.lit (.bool false)], args := [d1, d2, d3] }
  | _ => none }
def FnExactEntriesAddWrongFalsely : Prop := fnExactEntriesAddRow.holds Try.pinned (OpenSpec.ofChange fnExactEntriesAddWrong)

/-- 'laws.FnEntriesAdd': WHATEVER THE INPUT: true; the input reads as it did. -/
def fnEntriesAddSpec : ChangeSpec := { name := "fnEntriesAdd", fn := fun _ => fun
  | [d] => { results := [.lit (.bool true)], args := [d] }
  | _ => none }
def fnEntriesAddRow : OpenClaim := { program := "ytdjpacfcimifdaa", sum := "fb121546425aac983e2c5be535e20bc4b0bfaa08bc7d60c23e91a516fafff4fe", func := "loop.example/poolfiles/laws.FnEntriesAdd", spec := "fnEntriesAdd", inPlace := ["internal/bytealg.abigen_runtime_cmpstring", "slices.overlaps[loop.example/poolfiles/impl.Entry]"], unfollowed := true, recurses := true, apart := false }
def FnEntriesAddSaid : Prop := fnEntriesAddRow.holds Try.pinned (OpenSpec.ofChange fnEntriesAddSpec)

/-- ITS FALSE NEIGHBOUR: 'it returns false'. Refute it at one input. -/
def fnEntriesAddWrong : ChangeSpec := { name := "fnEntriesAdd", fn := fun _ => fun
  | [d] => { results := [.lit (.bool false)], args := [d] }
  | _ => none }
def FnEntriesAddWrongFalsely : Prop := fnEntriesAddRow.holds Try.pinned (OpenSpec.ofChange fnEntriesAddWrong)

/- THE SECOND FORM. 'bulk': how many values and letters a reading holds, each counted each time it is reached (what is shared counts as often as it is met; a slice's spare places count too). A statement '..UptoSaid' is the law's where the arguments, and the package variables that the reading takes, are together of bulk at most 1048576: NARROWER than '..Said'. Prove '..Said' where nothing that the law and all that it calls make is longer than what came in: it says more and counts as full. Else prove '..UptoSaid'. A law counts once. -/
mutual
def uptoBulk {H : Type} : DataW H → Nat
  | .lit (.string bytes) => bytes.length + 1
  | .lit _ => 1
  | .nil => 1
  | .ptr d => uptoBulk d + 1
  | .slice elems spare => uptoBulkAll elems + uptoBulkAll spare + 1
  | .agg parts => uptoBulkAll parts + 1
  | .iface _ d => uptoBulk d + 1
  | .map entries => uptoBulkEntries entries + 1
  | .held _ => 1
def uptoBulkAll {H : Type} : List (DataW H) → Nat
  | [] => 0
  | d :: r => uptoBulk d + uptoBulkAll r
def uptoBulkEntries {H : Type} : List (Lit × DataW H) → Nat
  | [] => 0
  | x :: r => uptoBulkEntry x + uptoBulkEntries r
def uptoBulkEntry {H : Type} : Lit × DataW H → Nat
  | (.string bytes, d) => bytes.length + uptoBulk d + 1
  | (_, d) => uptoBulk d + 1
 end
def uptoSmall : (H : Type) → List (DataW H) → Bool := fun _ ds => decide (uptoBulkAll ds ≤ 1048576)
def OpenSpec.upto (s : _root_.Go.ChangeSpec) : _root_.Go.OpenSpec := { _root_.Go.OpenSpec.ofChange s with cond := some uptoSmall }

/-- 'laws.FnExactNameOk', WHERE WHAT IT READS IS OF BULK AT MOST 1048576: true; the input reads as it did. -/
def fnExactNameOkUptoRow : OpenClaim := { program := "ytdjpacfcimifdaa", sum := "fb121546425aac983e2c5be535e20bc4b0bfaa08bc7d60c23e91a516fafff4fe", func := "loop.example/poolfiles/laws.FnExactNameOk", spec := "fnExactNameOk", unfollowed := true, recurses := true, apart := false, narrowed := true }
def FnExactNameOkUptoSaid : Prop := fnExactNameOkUptoRow.holds Try.pinned (OpenSpec.upto fnExactNameOkSpec)

/-- 'laws.FnExactEntriesOk', WHERE WHAT IT READS IS OF BULK AT MOST 1048576: true; the input reads as it did. -/
def fnExactEntriesOkUptoRow : OpenClaim := { program := "ytdjpacfcimifdaa", sum := "fb121546425aac983e2c5be535e20bc4b0bfaa08bc7d60c23e91a516fafff4fe", func := "loop.example/poolfiles/laws.FnExactEntriesOk", spec := "fnExactEntriesOk", unfollowed := true, recurses := true, apart := false, narrowed := true }
def FnExactEntriesOkUptoSaid : Prop := fnExactEntriesOkUptoRow.holds Try.pinned (OpenSpec.upto fnExactEntriesOkSpec)

/-- 'laws.FnExactEntriesFind', WHERE WHAT IT READS IS OF BULK AT MOST 1048576: true; the input reads as it did. -/
def fnExactEntriesFindUptoRow : OpenClaim := { program := "ytdjpacfcimifdaa", sum := "fb121546425aac983e2c5be535e20bc4b0bfaa08bc7d60c23e91a516fafff4fe", func := "loop.example/poolfiles/laws.FnExactEntriesFind", spec := "fnExactEntriesFind", inPlace := ["internal/bytealg.abigen_runtime_cmpstring"], unfollowed := true, recurses := true, apart := false, narrowed := true }
def FnExactEntriesFindUptoSaid : Prop := fnExactEntriesFindUptoRow.holds Try.pinned (OpenSpec.upto fnExactEntriesFindSpec)

/-- 'laws.FnExactEntriesLess', WHERE WHAT IT READS IS OF BULK AT MOST 1048576: true; the input reads as it did. -/
def fnExactEntriesLessUptoRow : OpenClaim := { program := "ytdjpacfcimifdaa", sum := "fb121546425aac983e2c5be535e20bc4b0bfaa08bc7d60c23e91a516fafff4fe", func := "loop.example/poolfiles/laws.FnExactEntriesLess", spec := "fnExactEntriesLess", inPlace := ["internal/bytealg.abigen_runtime_cmpstring"], unfollowed := true, recurses := true, apart := false, narrowed := true }
def FnExactEntriesLessUptoSaid : Prop := fnExactEntriesLessUptoRow.holds Try.pinned (OpenSpec.upto fnExactEntriesLessSpec)

/-- 'laws.FnEntriesLess', WHERE WHAT IT READS IS OF BULK AT MOST 1048576: true; the input reads as it did. -/
def fnEntriesLessUptoRow : OpenClaim := { program := "ytdjpacfcimifdaa", sum := "fb121546425aac983e2c5be535e20bc4b0bfaa08bc7d60c23e91a516fafff4fe", func := "loop.example/poolfiles/laws.FnEntriesLess", spec := "fnEntriesLess", inPlace := ["internal/bytealg.abigen_runtime_cmpstring"], unfollowed := true, recurses := true, apart := false, narrowed := true }
def FnEntriesLessUptoSaid : Prop := fnEntriesLessUptoRow.holds Try.pinned (OpenSpec.upto fnEntriesLessSpec)

/-- 'laws.FnEntriesOrder', WHERE WHAT IT READS IS OF BULK AT MOST 1048576: true; the input reads as it did. -/
def fnEntriesOrderUptoRow : OpenClaim := { program := "ytdjpacfcimifdaa", sum := "fb121546425aac983e2c5be535e20bc4b0bfaa08bc7d60c23e91a516fafff4fe", func := "loop.example/poolfiles/laws.FnEntriesOrder", spec := "fnEntriesOrder", inPlace := ["internal/bytealg.abigen_runtime_cmpstring", "slices.overlaps[loop.example/poolfiles/impl.Entry]"], unfollowed := true, recurses := true, apart := false, narrowed := true }
def FnEntriesOrderUptoSaid : Prop := fnEntriesOrderUptoRow.holds Try.pinned (OpenSpec.upto fnEntriesOrderSpec)

/-- 'laws.FnEntriesFind', WHERE WHAT IT READS IS OF BULK AT MOST 1048576: true; the input reads as it did. -/
def fnEntriesFindUptoRow : OpenClaim := { program := "ytdjpacfcimifdaa", sum := "fb121546425aac983e2c5be535e20bc4b0bfaa08bc7d60c23e91a516fafff4fe", func := "loop.example/poolfiles/laws.FnEntriesFind", spec := "fnEntriesFind", inPlace := ["internal/bytealg.abigen_runtime_cmpstring", "slices.overlaps[loop.example/poolfiles/impl.Entry]"], unfollowed := true, recurses := true, apart := false, narrowed := true }
def FnEntriesFindUptoSaid : Prop := fnEntriesFindUptoRow.holds Try.pinned (OpenSpec.upto fnEntriesFindSpec)

/-- 'laws.FnExactEntriesAdd', WHERE WHAT IT READS IS OF BULK AT MOST 1048576: true; the input reads as it did. -/
def fnExactEntriesAddUptoRow : OpenClaim := { program := "ytdjpacfcimifdaa", sum := "fb121546425aac983e2c5be535e20bc4b0bfaa08bc7d60c23e91a516fafff4fe", func := "loop.example/poolfiles/laws.FnExactEntriesAdd", spec := "fnExactEntriesAdd", inPlace := ["internal/bytealg.abigen_runtime_cmpstring", "slices.overlaps[loop.example/poolfiles/impl.Entry]"], unfollowed := true, recurses := true, apart := false, narrowed := true }
def FnExactEntriesAddUptoSaid : Prop := fnExactEntriesAddUptoRow.holds Try.pinned (OpenSpec.upto fnExactEntriesAddSpec)

/-- 'laws.FnEntriesAdd', WHERE WHAT IT READS IS OF BULK AT MOST 1048576: true; the input reads as it did. -/
def fnEntriesAddUptoRow : OpenClaim := { program := "ytdjpacfcimifdaa", sum := "fb121546425aac983e2c5be535e20bc4b0bfaa08bc7d60c23e91a516fafff4fe", func := "loop.example/poolfiles/laws.FnEntriesAdd", spec := "fnEntriesAdd", inPlace := ["internal/bytealg.abigen_runtime_cmpstring", "slices.overlaps[loop.example/poolfiles/impl.Entry]"], unfollowed := true, recurses := true, apart := false, narrowed := true }
def FnEntriesAddUptoSaid : Prop := fnEntriesAddUptoRow.holds Try.pinned (OpenSpec.upto fnEntriesAddSpec)

end Rows
end Go.Proofs.Ytdjpacfcimifdaa
