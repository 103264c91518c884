/- The laws' mark texts: one text a number. -/
import Derived.Test.YthedmiippfpbnaaGreatDoorMem
import Derived.OwnWalk
import Derived.Laws.IdiomStrings
namespace Go.Proofs.YthedmiippfpbnaaGreatDoor
open Go.RowKit
set_option linter.unusedVariables false

/-- The digits of a number ahead of a text. -/
def markFrom (k : Nat) (out : ByteArray) : ByteArray := if h : k = 0 then out else markFrom (k / 10) (⟨#[48 + UInt8.ofNat (k % 10)]⟩ ++ out)
termination_by k
decreasing_by omega
/-- The text of a mark. -/
def markS (k : Nat) : ByteArray := ⟨#[109]⟩ ++ markFrom k ⟨#[]⟩

theorem markFrom_zero (out : ByteArray) : markFrom 0 out = out := by unfold markFrom; simp
theorem markFrom_pos {k : Nat} (h : 0 < k) (out : ByteArray) : markFrom k out = markFrom (k / 10) (⟨#[48 + UInt8.ofNat (k % 10)]⟩ ++ out) := by
  rw [markFrom, dif_neg (by omega)]

theorem wpList_convert {P : Program} {w w' : World} {ops : Array Oper} {rest : List Oper} {o : Oper} {a : Act} {Q : Exit → Act → World → Prop} (hg : o.guard = none) (src dst : TypeId) (x : Operand) (ho : o.op = Op.convert src dst x) {v r : Value} (hx : a.eval x = v) (hrun : (convert src dst v).run P w = .ok r w') (h : wpList P ops Q rest (a.put o.dst r) w') : wpList P ops Q (o :: rest) a w :=
  wpList_plain hg fun K hK => by
    unfold Oper.wp
    simp [execOp, ho, hx, hrun, Result.andThen]
    exact hK _ _ h

/-- One byte, from a literal of one, as a text. -/
theorem back_one (w : World) (src T : TypeId) (hs : Tryz.prog.underlying src = some (.slice T)) (hT : Tryz.prog.underlying T = some (.int .u8)) (n : Nat) (hn : n < 256) (x : Int) (hx : x = (n : Int)) (cap : Nat) :
    (convert src 9 (.slice (some ⟨w.heap.size, 0, none⟩) 1 cap)).run Tryz.prog (w.alloc (.cells #[.int .u8 x] T)) = .ok (.string ⟨#[UInt8.ofNat n]⟩) (w.alloc (.cells #[.int .u8 x] T)) := by
  subst hx
  have h := run_convert_bytes_back (P := Tryz.prog) (w.alloc (.cells #[.int .u8 n] T)) src 9 T ⟨w.heap.size, 0, none⟩ cap [UInt8.ofNat n] hs hT Tryz.underlying9 (fun j hj => by
    have : j = 0 := by simpa using hj
    subst this
    have e : (UInt8.ofNat n).toNat = n := by simp; omega
    have ea : (⟨w.heap.size, 0, none⟩ : Addr).add 0 = ⟨w.heap.size, 0, none⟩ := by unfold Addr.add; simp
    rw [ea]
    unfold World.cell?
    simp only [heap_alloc_new]
    simp [e])
  exact h

end Go.Proofs.YthedmiippfpbnaaGreatDoor
