/- The laws' mark texts: one text a number. -/
import Derived.Test.YtjalboplilolkaaDoorMem
import Derived.OwnWalk
import Derived.Laws.IdiomStrings
namespace Go.Proofs.YtjalboplilolkaaDoor
open Go.RowKit
set_option linter.unusedVariables false

/-- The digits of a number ahead of a text. -/
def markFrom (k : Nat) (out : ByteArray) : ByteArray := if h : k = 0 then out else markFrom (k / 10) (⟨#[48 + UInt8.ofNat (k % 10)]⟩ ++ out)
termination_by k
decreasing_by omega
/-- The text of a mark. -/
def markS (k : Nat) : ByteArray := ⟨#[109]⟩ ++ markFrom k ⟨#[]⟩

theorem markFrom_zero (out : ByteArray) : markFrom 0 out = out := by unfold markFrom; simp
theorem markFrom_pos {k : Nat} (h : 0 < k) (out : ByteArray) : markFrom k out = markFrom (k / 10) (⟨#[48 + UInt8.ofNat (k % 10)]⟩ ++ out) := by
  rw [markFrom, dif_neg (by omega)]

theorem wpList_convert {P : Program} {w w' : World} {ops : Array Oper} {rest : List Oper} {o : Oper} {a : Act} {Q : Exit → Act → World → Prop} (hg : o.guard = none) (src dst : TypeId) (x : Operand) (ho : o.op = Op.convert src dst x) {v r : Value} (hx : a.eval x = v) (hrun : (convert src dst v).run P w = .ok r w') (h : wpList P ops Q rest (a.put o.dst r) w') : wpList P ops Q (o :: rest) a w :=
  wpList_plain hg fun K hK => by
    unfold Oper.wp
    simp [execOp, ho, hx, hrun, Result.andThen]
    exact hK _ _ h

/-- One byte, from a literal of one, as a text. -/
theorem back_one (w : World) (src T : TypeId) (hs : Tryd.prog.underlying src = some (.slice T)) (hT : Tryd.prog.underlying T = some (.int .u8)) (n : Nat) (hn : n < 256) (x : Int) (hx : x = (n : Int)) (cap : Nat) :
    (convert src 9 (.slice (some ⟨w.heap.size, 0, none⟩) 1 cap)).run Tryd.prog (w.alloc (.cells #[.int .u8 x] T)) = .ok (.string ⟨#[UInt8.ofNat n]⟩) (w.alloc (.cells #[.int .u8 x] T)) := by
  subst hx
  have h := run_convert_bytes_back (P := Tryd.prog) (w.alloc (.cells #[.int .u8 n] T)) src 9 T ⟨w.heap.size, 0, none⟩ cap [UInt8.ofNat n] hs hT Tryd.underlying9 (fun j hj => by
    have : j = 0 := by simpa using hj
    subst this
    have e : (UInt8.ofNat n).toNat = n := by simp; omega
    have ea : (⟨w.heap.size, 0, none⟩ : Addr).add 0 = ⟨w.heap.size, 0, none⟩ := by unfold Addr.add; simp
    rw [ea]
    unfold World.cell?
    simp only [heap_alloc_new]
    simp [e])
  exact h

theorem markText_any (k : Nat) (w : World) (h1 : 1 ≤ k) (h2 : k ≤ 4194304) :
    Calls Tryd.prog 60 #[.int .i64 k] w fun e w' => e = .returned (.string (markS k)) ∧ Below w.heap.size w w' := by
  have n1 : ¬ (k : Int) ≤ 0 := by omega
  go_enter Tryd.func60, Tryd.ntmps60
  go_wp2_with fail
  go_loopw [0, 3] (fun x y wr => ∃ (j : Nat) (out : ByteArray), x = .int .i64 j ∧ y = .string out ∧ Hid (markFrom j out = markFrom k ⟨#[]⟩) ∧ out.size + j ≤ k ∧ Hid (Below w.heap.size w wr)) (fun x y _ => (intOf x).toNat)
  case atStart => exact ⟨k, ⟨#[]⟩, rfl, rfl, Lib.hid rfl, by show 0 + k ≤ k; omega, Lib.hid (Below.refl _ _)⟩
  case round =>
    obtain ⟨j, out, rfl, rfl, HM, hs, HB⟩ := hrel
    by_cases hj : 0 < j
    · have HF := Lib.hid ((markFrom_pos hj out).symm.trans HM.out)
      have q1 : (48 : Int) + (j : Int) % 10 = ((48 + j % 10 : Nat) : Int) := by omega
      have HCV := back_one wr 22 5 Tryd.underlying22 Tryd.underlying5 (48 + j % 10) (by omega) (48 + (j : Int) % 10) q1 1
      clear q1
      have q2 : ¬ 9223372036854775807 < (⟨#[UInt8.ofNat (48 + j % 10)]⟩ : ByteArray).size + out.size := by show ¬ _ < 1 + out.size; omega
      have hz : (⟨#[48 + UInt8.ofNat (j % 10)]⟩ ++ out : ByteArray).size = 1 + out.size := by rw [ByteArray.size_append]; rfl
      go_wp2_with fail
      refine ⟨⟨j / 10, _, by go_num, rfl, HF, by rw [hz]; omega, by have := HB.out; exact Lib.hid (by (repeat (first | assumption | exact Below.refl _ _ | refine below_alloc ?_ _ | refine Below.drew ?_ | refine below_drewN ?_ _ | refine below_set ?_ (by first | exact Nat.le_refl _ | omega | (simp; done) | (simp; omega)) _ | refine below_kp ?_ (by assumption) (by simp) | refine below_below ?_ (by assumption))))⟩, ?_⟩
      simp [intOf]
      omega
    · obtain rfl : j = 0 := by omega
      have HE := Lib.hid (show (⟨#[109]⟩ ++ out : ByteArray) = markS k by unfold markS; rw [← HM.out, markFrom_zero])
      have q2 : ¬ 9223372036854775807 < (⟨#[109]⟩ : ByteArray).size + out.size := by show ¬ _ < 1 + out.size; omega
      go_wp2_with fail
      go_ret
      exact ⟨ret_str HE.out, HB.out⟩

end Go.Proofs.YtjalboplilolkaaDoor
