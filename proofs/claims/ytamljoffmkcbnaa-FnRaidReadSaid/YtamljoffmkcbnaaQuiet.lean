/- A statement whose order is open, whose operations only read, and whose callees leave old memory alone: walked once. -/
import Derived.Test.YtamljoffmkcbnaaMem
import Derived.Lib.QuietBelow
import Derived.BigQuiet
namespace Go.Proofs.Ytamljoffmkcbnaa
open Go.RowKit Go.Sort
set_option linter.unusedVariables false

theorem grow_cell (W : World) (b o : Nat) (h : b < W.heap.size) (p : Regrown) : (grow (redrawn W p.d) p.os).cell? ⟨b, o, none⟩ = W.cell? ⟨b, o, none⟩ := (below_regrown W p.d p.os).cell (p := ⟨b, o, none⟩) h

theorem below_of_regrown {W w' : World} (h : ∃ p : Regrown, w' = grow (redrawn W p.d) p.os) : Below W.heap.size W w' := by
  obtain ⟨p, rfl⟩ := h
  exact below_regrown W p.d p.os

/-- The region walked once, in the order of the text; behind it some world of which 'Below' is known. -/
theorem wp_quiet_b {P : Program} {id : Nat} {Q : Exit → Act → World → Prop} {a : Act} {W : World} {l : List Oper} (hm : P.follows .mixedOrders = true) (hB : Region.lexB .any l.toArray = true)
    (h : (∀ b o, b < W.heap.size → ∀ p : Regrown, (grow (redrawn W p.d) p.os).cell? ⟨b, o, none⟩ = W.cell? ⟨b, o, none⟩) →
      wpQuiet P l.toArray (fun w' => ∃ p : Regrown, w' = grow (redrawn W p.d) p.os) (fun a' => ∀ w', (∃ p : Regrown, w' = grow (redrawn W p.d) p.os) → Q .normal a' w') l a) : (Code.region id l.toArray true).wp P Q a W :=
  wp_region_quiet_below hm hB (h (fun b o hb p => grow_cell W b o hb p))

/-- A callee's contract, met inside. -/
theorem quiet_b {P : Program} {f : FuncId} {args : Array Value} {W : World} {p : Regrown} {v : Value}
    (h : Calls P f args (grow (redrawn W p.d) p.os) fun e w' => e = .returned v ∧ Below (grow (redrawn W p.d) p.os).heap.size (grow (redrawn W p.d) p.os) w') :
    Calls P f args (grow (redrawn W p.d) p.os) fun e w'' => e = .returned v ∧ ∃ p : Regrown, w'' = grow (redrawn W p.d) p.os := Calls.regrown_of h
theorem quiet_s {P : Program} {f : FuncId} {args : Array Value} {W : World} {p : Regrown} {v : Value}
    (h : Calls P f args (grow (redrawn W p.d) p.os) fun e w' => e = .returned v ∧ grow (redrawn W p.d) p.os = w') :
    Calls P f args (grow (redrawn W p.d) p.os) fun e w'' => e = .returned v ∧ ∃ p : Regrown, w'' = grow (redrawn W p.d) p.os := h.mono fun _ _ ⟨he, hw⟩ => ⟨he, p, hw.symm⟩

end Go.Proofs.Ytamljoffmkcbnaa
