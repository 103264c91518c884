/-
  No cell of these rows narrows 'for every input' (looked for: loops, veiled, ifaces, maps, wideKeys, modest, calm, conditions, laid).
  DERIVED. THE GIVEN ROWS OF THIS SEAT. 9 by the template 'for every input the law returns true; each argument reads behind the call as it read before'; 0 by the template 'total and deterministic' (their statements: YtomofiklodojeaaTotals.lean).
  GIVEN WITH THE SEED: the statements are not yours to turn. If you find one false, say at which input.
  Laid BY PROGRAM, IN A SANDBOX (cutbox-rows.mjs): the forced cells as the released guide's own fill.sh prints them over the translation efc0dee17560c4e3… (all of the seat's roots in one cut). By AI agents, Wed Nov 11 2026. No macro, syntax, notation, axiom, sorry.
-/
import Derived.Test.YtomofiklodojeaaChecked
import GoSem.Claim
import GoSem.ClaimJoined
import GoSem.ClaimMapViews
import Derived.JoinedTies
import Derived.KernelRfl
namespace Go.Proofs.Ytomofiklodojeaa
/- THE CELL 'sum', in the pinned program and in every row, IS THE sha256 OF THE DUMP (.gsa) THAT YtomofiklodojeaaProg.lean LOADS. Nothing in Lean hashes anything: it is a label: what it is worth is what the hold of that sum in a sandbox is worth. -/
noncomputable def Try.pinned : Pinned := { name := "ytomofiklodojeaa", sum := "efc0dee17560c4e3ca90c8b637a30a0b74ba0ac1ee55ce078c0073d618194ddf", checked := Try.checked }
namespace Rows
def none {H : Type} : Left H := { results := [], args := [] }

/-- 'laws.FnSpaceJoin': WHATEVER THE INPUT: true; the input reads as it did. -/
def fnSpaceJoinSpec : ChangeSpec := { name := "fnSpaceJoin", fn := fun _ => fun
  | [d1, d2] => { results := [.lit (.bool true)], args := [d1, d2] }
  | _ => none }
def fnSpaceJoinRow : OpenClaim := { program := "ytomofiklodojeaa", sum := "efc0dee17560c4e3ca90c8b637a30a0b74ba0ac1ee55ce078c0073d618194ddf", func := "loop.example/poolfiles/laws.FnSpaceJoin", spec := "fnSpaceJoin", plainKeys := false, apart := false }
def FnSpaceJoinSaid : Prop := fnSpaceJoinRow.holds Try.pinned (OpenSpec.ofChange fnSpaceJoinSpec)

/-- ITS FALSE NEIGHBOUR: 'it returns false'. Refute it at one input. -/
def fnSpaceJoinWrong : ChangeSpec := { name := "fnSpaceJoin", fn := fun _ => fun
  | [d1, d2] => { results := [.lit (.bool false)], args := [d1, d2] }
  | _ => none }
def FnSpaceJoinWrongFalsely : Prop := fnSpaceJoinRow.holds Try.pinned (OpenSpec.ofChange fnSpaceJoinWrong)

/-- 'laws.FnExactSpaceOf': WHATEVER THE INPUT: true; the input reads as it did. -/
def fnExactSpaceOfSpec : ChangeSpec := { name := "fnExactSpaceOf", fn := fun _ => fun
  | [d] => { results := [.lit (.bool true)], args := [d] }
  | _ => none }
def fnExactSpaceOfRow : OpenClaim := { program := "ytomofiklodojeaa", sum := "efc0dee17560c4e3ca90c8b637a30a0b74ba0ac1ee55ce078c0073d618194ddf", func := "loop.example/poolfiles/laws.FnExactSpaceOf", spec := "fnExactSpaceOf", plainKeys := false, apart := false }
def FnExactSpaceOfSaid : Prop := fnExactSpaceOfRow.holds Try.pinned (OpenSpec.ofChange fnExactSpaceOfSpec)

/-- ITS FALSE NEIGHBOUR: 'it returns false'. Refute it at one input. -/
def fnExactSpaceOfWrong : ChangeSpec := { name := "fnExactSpaceOf", fn := fun _ => fun
  | [d] => { results := [.lit (.bool false)], args := [d] }
  | _ => none }
def FnExactSpaceOfWrongFalsely : Prop := fnExactSpaceOfRow.holds Try.pinned (OpenSpec.ofChange fnExactSpaceOfWrong)

/-- 'laws.FnSpaceOf': WHATEVER THE INPUT: true; the input reads as it did. -/
def fnSpaceOfSpec : ChangeSpec := { name := "fnSpaceOf", fn := fun _ => fun
  | [d] => { results := [.lit (.bool true)], args := [d] }
  | _ => none }
def fnSpaceOfRow : OpenClaim := { program := "ytomofiklodojeaa", sum := "efc0dee17560c4e3ca90c8b637a30a0b74ba0ac1ee55ce078c0073d618194ddf", func := "loop.example/poolfiles/laws.FnSpaceOf", spec := "fnSpaceOf", plainKeys := false, apart := false }
def FnSpaceOfSaid : Prop := fnSpaceOfRow.holds Try.pinned (OpenSpec.ofChange fnSpaceOfSpec)

/-- ITS FALSE NEIGHBOUR: 'it returns false'. Refute it at one input. -/
def fnSpaceOfWrong : ChangeSpec := { name := "fnSpaceOf", fn := fun _ => fun
  | [d] => { results := [.lit (.bool false)], args := [d] }
  | _ => none }
def FnSpaceOfWrongFalsely : Prop := fnSpaceOfRow.holds Try.pinned (OpenSpec.ofChange fnSpaceOfWrong)

/-- 'laws.FnExactStoreNew': WHATEVER THE INPUT: true; the input reads as it did. -/
def fnExactStoreNewSpec : ChangeSpec := { name := "fnExactStoreNew", fn := fun _ => fun
  | [d] => { results := [.lit (.bool true)], args := [d] }
  | _ => none }
def fnExactStoreNewRow : OpenClaim := { program := "ytomofiklodojeaa", sum := "efc0dee17560c4e3ca90c8b637a30a0b74ba0ac1ee55ce078c0073d618194ddf", func := "loop.example/poolfiles/laws.FnExactStoreNew", spec := "fnExactStoreNew", plainKeys := false, apart := false }
def FnExactStoreNewSaid : Prop := fnExactStoreNewRow.holds Try.pinned (OpenSpec.ofChange fnExactStoreNewSpec)

/-- ITS FALSE NEIGHBOUR: 'it returns false'. Refute it at one input. -/
def fnExactStoreNewWrong : ChangeSpec := { name := "fnExactStoreNew", fn := fun _ => fun
  | [d] => { results := [.lit (.bool false)], args := [d] }
  | _ => none }
def FnExactStoreNewWrongFalsely : Prop := fnExactStoreNewRow.holds Try.pinned (OpenSpec.ofChange fnExactStoreNewWrong)

/-- 'laws.FnExactStoreOk': WHATEVER THE INPUT: true; the input reads as it did. -/
def fnExactStoreOkSpec : ChangeSpec := { name := "fnExactStoreOk", fn := fun _ => fun
  | [d] => { results := [.lit (.bool true)], args := [d] }
  | _ => none }
def fnExactStoreOkRow : OpenClaim := { program := "ytomofiklodojeaa", sum := "efc0dee17560c4e3ca90c8b637a30a0b74ba0ac1ee55ce078c0073d618194ddf", func := "loop.example/poolfiles/laws.FnExactStoreOk", spec := "fnExactStoreOk", unfollowed := true, recurses := true, plainKeys := false, apart := false }
def FnExactStoreOkSaid : Prop := fnExactStoreOkRow.holds Try.pinned (OpenSpec.ofChange fnExactStoreOkSpec)

/-- ITS FALSE NEIGHBOUR: 'it returns false'. Refute it at one input. -/
def fnExactStoreOkWrong : ChangeSpec := { name := "fnExactStoreOk", fn := fun _ => fun
  | [d] => { results := [.lit (.bool false)], args := [d] }
  | _ => none }
def FnExactStoreOkWrongFalsely : Prop := fnExactStoreOkRow.holds Try.pinned (OpenSpec.ofChange fnExactStoreOkWrong)

/-- 'laws.FnExactStoreRead': WHATEVER THE INPUT: true; the input reads as it did. -/
def fnExactStoreReadSpec : ChangeSpec := { name := "fnExactStoreRead", fn := fun _ => fun
  | [d1, d2] => { results := [.lit (.bool true)], args := [d1, d2] }
  | _ => none }
def fnExactStoreReadRow : OpenClaim := { program := "ytomofiklodojeaa", sum := "efc0dee17560c4e3ca90c8b637a30a0b74ba0ac1ee55ce078c0073d618194ddf", func := "loop.example/poolfiles/laws.FnExactStoreRead", spec := "fnExactStoreRead", unfollowed := true, recurses := true, plainKeys := false, apart := false }
def FnExactStoreReadSaid : Prop := fnExactStoreReadRow.holds Try.pinned (OpenSpec.ofChange fnExactStoreReadSpec)

/-- ITS FALSE NEIGHBOUR: 'it returns false'. Refute it at one input. -/
def fnExactStoreReadWrong : ChangeSpec := { name := "fnExactStoreRead", fn := fun _ => fun
  | [d1, d2] => { results := [.lit (.bool false)], args := [d1, d2] }
  | _ => none }
def FnExactStoreReadWrongFalsely : Prop := fnExactStoreReadRow.holds Try.pinned (OpenSpec.ofChange fnExactStoreReadWrong)

/-- 'laws.FnRaidNew': WHATEVER THE INPUT: true; the input reads as it did. -/
def fnRaidNewSpec : ChangeSpec := { name := "fnRaidNew", fn := fun _ => fun
  | [d] => { results := [.lit (.bool true)], args := [d] }
  | _ => none }
def fnRaidNewRow : OpenClaim := { program := "ytomofiklodojeaa", sum := "efc0dee17560c4e3ca90c8b637a30a0b74ba0ac1ee55ce078c0073d618194ddf", func := "loop.example/poolfiles/laws.FnRaidNew", spec := "fnRaidNew", unfollowed := true, recurses := true, plainKeys := false, apart := false }
def FnRaidNewSaid : Prop := fnRaidNewRow.holds Try.pinned (OpenSpec.ofChange fnRaidNewSpec)

/-- ITS FALSE NEIGHBOUR: 'it returns false'. Refute it at one input. -/
def fnRaidNewWrong : ChangeSpec := { name := "fnRaidNew", fn := fun _ => fun
  | [d] => { results := [.lit (.bool false)], args := [d] }
  | _ => none }
def FnRaidNewWrongFalsely : Prop := fnRaidNewRow.holds Try.pinned (OpenSpec.ofChange fnRaidNewWrong)

/-- 'laws.FnExactRaidRead': WHATEVER THE INPUT: true; the input reads as it did. -/
def fnExactRaidReadSpec : ChangeSpec := { name := "fnExactRaidRead", fn := fun _ => fun
  | [d1, d2] => { results := [.lit (.bool true)], args := [d1, d2] }
  | _ => none }
def fnExactRaidReadRow : OpenClaim := { program := "ytomofiklodojeaa", sum := "efc0dee17560c4e3ca90c8b637a30a0b74ba0ac1ee55ce078c0073d618194ddf", func := "loop.example/poolfiles/laws.FnExactRaidRead", spec := "fnExactRaidRead", unfollowed := true, recurses := true, plainKeys := false, apart := false }
def FnExactRaidReadSaid : Prop := fnExactRaidReadRow.holds Try.pinned (OpenSpec.ofChange fnExactRaidReadSpec)

/-- ITS FALSE NEIGHBOUR: 'it returns false'. Refute it at one input. -/
def fnExactRaidReadWrong : ChangeSpec := { name := "fnExactRaidRead", fn := fun _ => fun
  | [d1, d2] => { results := [.lit (.bool false)], args := [d1, d2] }
  | _ => none }
def FnExactRaidReadWrongFalsely : Prop := fnExactRaidReadRow.holds Try.pinned (OpenSpec.ofChange fnExactRaidReadWrong)

/-- 'laws.FnRaidRead': WHATEVER THE INPUT: true; the input reads as it did. -/
def fnRaidReadSpec : ChangeSpec := { name := "fnRaidRead", fn := fun _ => fun
  | [d] => { results := [.lit (.bool true)], args := [d] }
  | _ => none }
def fnRaidReadRow : OpenClaim := { program := "ytomofiklodojeaa", sum := "efc0dee17560c4e3ca90c8b637a30a0b74ba0ac1ee55ce078c0073d618194ddf", func := "loop.example/poolfiles/laws.FnRaidRead", spec := "fnRaidRead", unfollowed := true, recurses := true, plainKeys := false, apart := false }
def FnRaidReadSaid : Prop := fnRaidReadRow.holds Try.pinned (OpenSpec.ofChange fnRaidReadSpec)

/-- ITS FALSE NEIGHBOUR: 'it returns false'. Refute it at one input. -/
def fnRaidReadWrong : ChangeSpec := { name := "fnRaidRead", fn := fun _ => fun
  | [d] => { results := [.lit (.bool false)], args := [d] }
  | _ => none }
def FnRaidReadWrongFalsely : Prop := fnRaidReadRow.holds Try.pinned (OpenSpec.ofChange fnRaidReadWrong)

/- THE SECOND FORM. 'bulk': how many values and letters a reading holds, each counted each time it is reached (what is shared counts as often as it is met; a slice's spare places count too). A statement '..UptoSaid' is the law's where the arguments, and the package variables that the reading takes, are together of bulk at most 1048576: NARROWER than '..Said'. Prove '..Said' where nothing that the law and all that it calls make is longer than what came in: it says more and counts as full. Else prove '..UptoSaid'. A law counts once. -/
mutual
def uptoBulk {H : Type} : DataW H → Nat
  | .lit (.string bytes) => bytes.length + 1
  | .lit _ => 1
  | .nil => 1
  | .ptr d => uptoBulk d + 1
  | .slice elems spare => uptoBulkAll elems + uptoBulkAll spare + 1
  | .agg parts => uptoBulkAll parts + 1
  | .iface _ d => uptoBulk d + 1
  | .map entries => uptoBulkEntries entries + 1
  | .held _ => 1
def uptoBulkAll {H : Type} : List (DataW H) → Nat
  | [] => 0
  | d :: r => uptoBulk d + uptoBulkAll r
def uptoBulkEntries {H : Type} : List (Lit × DataW H) → Nat
  | [] => 0
  | x :: r => uptoBulkEntry x + uptoBulkEntries r
def uptoBulkEntry {H : Type} : Lit × DataW H → Nat
  | (.string bytes, d) => bytes.length + uptoBulk d + 1
  | (_, d) => uptoBulk d + 1
 end
def uptoSmall : (H : Type) → List (DataW H) → Bool := fun _ ds => decide (uptoBulkAll ds ≤ 1048576)
def OpenSpec.upto (s : _root_.Go.ChangeSpec) : _root_.Go.OpenSpec := { _root_.Go.OpenSpec.ofChange s with cond := some uptoSmall }

/-- 'laws.FnSpaceJoin', WHERE WHAT IT READS IS OF BULK AT MOST 1048576: true; the input reads as it did. -/
def fnSpaceJoinUptoRow : OpenClaim := { program := "ytomofiklodojeaa", sum := "efc0dee17560c4e3ca90c8b637a30a0b74ba0ac1ee55ce078c0073d618194ddf", func := "loop.example/poolfiles/laws.FnSpaceJoin", spec := "fnSpaceJoin", plainKeys := false, apart := false, narrowed := true }
def FnSpaceJoinUptoSaid : Prop := fnSpaceJoinUptoRow.holds Try.pinned (OpenSpec.upto fnSpaceJoinSpec)

/-- 'laws.FnExactSpaceOf', WHERE WHAT IT READS IS OF BULK AT MOST 1048576: true; the input reads as it did. -/
def fnExactSpaceOfUptoRow : OpenClaim := { program := "ytomofiklodojeaa", sum := "efc0dee17560c4e3ca90c8b637a30a0b74ba0ac1ee55ce078c0073d618194ddf", func := "loop.example/poolfiles/laws.FnExactSpaceOf", spec := "fnExactSpaceOf", plainKeys := false, apart := false, narrowed := true }
def FnExactSpaceOfUptoSaid : Prop := fnExactSpaceOfUptoRow.holds Try.pinned (OpenSpec.upto fnExactSpaceOfSpec)

/-- 'laws.FnSpaceOf', WHERE WHAT IT READS IS OF BULK AT MOST 1048576: true; the input reads as it did. -/
def fnSpaceOfUptoRow : OpenClaim := { program := "ytomofiklodojeaa", sum := "efc0dee17560c4e3ca90c8b637a30a0b74ba0ac1ee55ce078c0073d618194ddf", func := "loop.example/poolfiles/laws.FnSpaceOf", spec := "fnSpaceOf", plainKeys := false, apart := false, narrowed := true }
def FnSpaceOfUptoSaid : Prop := fnSpaceOfUptoRow.holds Try.pinned (OpenSpec.upto fnSpaceOfSpec)

/-- 'laws.FnExactStoreNew', WHERE WHAT IT READS IS OF BULK AT MOST 1048576: true; the input reads as it did. -/
def fnExactStoreNewUptoRow : OpenClaim := { program := "ytomofiklodojeaa", sum := "efc0dee17560c4e3ca90c8b637a30a0b74ba0ac1ee55ce078c0073d618194ddf", func := "loop.example/poolfiles/laws.FnExactStoreNew", spec := "fnExactStoreNew", plainKeys := false, apart := false, narrowed := true }
def FnExactStoreNewUptoSaid : Prop := fnExactStoreNewUptoRow.holds Try.pinned (OpenSpec.upto fnExactStoreNewSpec)

/-- 'laws.FnExactStoreOk', WHERE WHAT IT READS IS OF BULK AT MOST 1048576: true; the input reads as it did. -/
def fnExactStoreOkUptoRow : OpenClaim := { program := "ytomofiklodojeaa", sum := "efc0dee17560c4e3ca90c8b637a30a0b74ba0ac1ee55ce078c0073d618194ddf", func := "loop.example/poolfiles/laws.FnExactStoreOk", spec := "fnExactStoreOk", unfollowed := true, recurses := true, plainKeys := false, apart := false, narrowed := true }
def FnExactStoreOkUptoSaid : Prop := fnExactStoreOkUptoRow.holds Try.pinned (OpenSpec.upto fnExactStoreOkSpec)

/-- 'laws.FnExactStoreRead', WHERE WHAT IT READS IS OF BULK AT MOST 1048576: true; the input reads as it did. -/
def fnExactStoreReadUptoRow : OpenClaim := { program := "ytomofiklodojeaa", sum := "efc0dee17560c4e3ca90c8b637a30a0b74ba0ac1ee55ce078c0073d618194ddf", func := "loop.example/poolfiles/laws.FnExactStoreRead", spec := "fnExactStoreRead", unfollowed := true, recurses := true, plainKeys := false, apart := false, narrowed := true }
def FnExactStoreReadUptoSaid : Prop := fnExactStoreReadUptoRow.holds Try.pinned (OpenSpec.upto fnExactStoreReadSpec)

/-- 'laws.FnRaidNew', WHERE WHAT IT READS IS OF BULK AT MOST 1048576: true; the input reads as it did. -/
def fnRaidNewUptoRow : OpenClaim := { program := "ytomofiklodojeaa", sum := "efc0dee17560c4e3ca90c8b637a30a0b74ba0ac1ee55ce078c0073d618194ddf", func := "loop.example/poolfiles/laws.FnRaidNew", spec := "fnRaidNew", unfollowed := true, recurses := true, plainKeys := false, apart := false, narrowed := true }
def FnRaidNewUptoSaid : Prop := fnRaidNewUptoRow.holds Try.pinned (OpenSpec.upto fnRaidNewSpec)

/-- 'laws.FnExactRaidRead', WHERE WHAT IT READS IS OF BULK AT MOST 1048576: true; the input reads as it did. -/
def fnExactRaidReadUptoRow : OpenClaim := { program := "ytomofiklodojeaa", sum := "efc0dee17560c4e3ca90c8b637a30a0b74ba0ac1ee55ce078c0073d618194ddf", func := "loop.example/poolfiles/laws.FnExactRaidRead", spec := "fnExactRaidRead", unfollowed := true, recurses := true, plainKeys := false, apart := false, narrowed := true }
def FnExactRaidReadUptoSaid : Prop := fnExactRaidReadUptoRow.holds Try.pinned (OpenSpec.upto fnExactRaidReadSpec)

/-- 'laws.FnRaidRead', WHERE WHAT IT READS IS OF BULK AT MOST 1048576: true; the input reads as it did. -/
def fnRaidReadUptoRow : OpenClaim := { program := "ytomofiklodojeaa", sum := "efc0dee17560c4e3ca90c8b637a30a0b74ba0ac1ee55ce078c0073d618194ddf", func := "loop.example/poolfiles/laws.FnRaidRead", spec := "fnRaidRead", unfollowed := true, recurses := true, plainKeys := false, apart := false, narrowed := true }
def FnRaidReadUptoSaid : Prop := fnRaidReadUptoRow.holds Try.pinned (OpenSpec.upto fnRaidReadSpec)

end Rows
end Go.Proofs.Ytomofiklodojeaa
