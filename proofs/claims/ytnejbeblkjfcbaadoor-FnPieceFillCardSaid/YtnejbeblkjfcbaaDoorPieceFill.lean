/- A piece with zero bytes behind it: both texts. -/
import Derived.Test.YtnejbeblkjfcbaaDoorMem
import Derived.Test.YtnejbeblkjfcbaaDoorShelf
import Derived.OwnWalk
import Derived.Laws.IdiomStrings
namespace Go.Proofs.YtnejbeblkjfcbaaDoor
open Go.RowKit
set_option linter.unusedVariables false

def zeros (n : Nat) : ByteArray := ⟨(List.replicate n (0 : UInt8)).toArray⟩

theorem wpList_convert {P : Program} {w w' : World} {ops : Array Oper} {rest : List Oper} {o : Oper} {a : Act} {Q : Exit → Act → World → Prop} (hg : o.guard = none) (src dst : TypeId) (x : Operand) (ho : o.op = Op.convert src dst x) {v r : Value} (hx : a.eval x = v) (hrun : (convert src dst v).run P w = .ok r w') (h : wpList P ops Q rest (a.put o.dst r) w') : wpList P ops Q (o :: rest) a w :=
  wpList_plain hg fun K hK => by
    unfold Oper.wp
    simp [execOp, ho, hx, hrun, Result.andThen]
    exact hK _ _ h

theorem info_u8 : (Tryd.prog.info? 5).map (fun i => (i.zero, i.size, i.bytes)) = some (some (.int .u8 0), 1, 1) := by kernel_rfl

theorem back_zeros {w0 w1 : World} {n : Nat} (hown : w1.ownsRow w0.heap.size 5 1 (.slice (some ⟨w0.heap.size, 0, none⟩) n n) n (madeCells (Value.int .u8 0).cells (n * 1)).toList) :
    (convert 25 9 (.slice (some ⟨w0.heap.size, 0, none⟩) n n)).run Tryd.prog w1 = .ok (.string (zeros n)) w1 := by
  have h := run_convert_bytes_back (P := Tryd.prog) w1 25 9 5 ⟨w0.heap.size, 0, none⟩ n (List.replicate n 0) Tryd.underlying25 Tryd.underlying5 Tryd.underlying9 (fun j hj => by
    have hj' : j < n := by simpa using hj
    have e : (⟨w0.heap.size, 0, none⟩ : Addr).add j = ⟨w0.heap.size, j, none⟩ := by
      unfold Addr.add
      split
      · next h => subst h; simp
      · simp
    rw [e]
    rw [World.ownsRow.cellAt (base := w0.heap.size) (e := 5) (size := 1) (n := n) (cap := n) hown j (by omega)]
    simp [madeCells, Value.cells, hj', Nat.mod_one])
  rw [List.length_replicate] at h
  exact h

theorem l10Zeros_any (n : Nat) (w : World) (h : n ≤ 128) :
    Calls Tryd.prog 20 #[.int .i64 n] w fun e w' => e = .returned (.string (zeros n)) ∧ Below w.heap.size w w' := by
  obtain ⟨i0, hi, hz0, hz1, hz2⟩ := info_parts info_u8
  go_enter Tryd.func20, Tryd.ntmps20
  go_wp2_with (first | (at_make; refine wpList_make_full _ rfl _ _ 25 rfl w.heap.size 5 i0 _ 1 Tryd.underlying25 hi hz0 hz1 .i64 .i64 _ _ n rfl rfl rfl rfl (by rw [hz2]; omega) (by unfold maxLen; omega) (Nat.le_refl _) ?_; intro w1 hown hgrow) | (refine wpList_convert rfl _ _ _ rfl rfl (back_zeros hown) ?_))
  have hB1 : Below w.heap.size w w1 := (Below.refl _ _).grown hgrow (Nat.le_refl _) (fun k hk => by cases hk)
  go_ret
  exact ⟨rfl, hB1⟩

theorem zeros_size (n : Nat) : (zeros n).size = n := by simp [zeros, ByteArray.size]

/-- Whether a piece has room, and the piece with zeros behind it. -/
def fitB (s : ByteArray) (n : Int) : Bool := inB n 0 12 && decide ((s.size : Int) ≤ n)
def fillS (s : ByteArray) (n : Int) : ByteArray := if fitB s n = true then s ++ zeros (n.toNat - s.size) else ⟨#[]⟩

theorem repeatL_zero : ∀ n, Lib.repeatL [(0 : UInt8)] n = List.replicate n 0
  | 0 => rfl
  | n + 1 => by simp [Lib.repeatL, repeatL_zero n, List.replicate_succ]
theorem repeat_zeros (n : Nat) : (⟨(Lib.repeatL [(0 : UInt8)] n).toArray⟩ : ByteArray) = zeros n := by
  rw [repeatL_zero]
  rfl

theorem specFill_any (s : ByteArray) (n : Int) (w : World) (hs : s.size ≤ 1048576) :
    Calls Tryd.prog 10 #[.string s, .int .i64 n] w fun e w' => e = .returned (.tuple #[.string (fillS s n), .bool (fitB s n)]) ∧ Below w.heap.size w w' := by
  by_cases h1 : inB n 0 12 = true
  · obtain ⟨b1, b2⟩ := inB_true h1
    obtain ⟨m, rfl⟩ : ∃ m : Nat, n = (m : Int) := ⟨n.toNat, by omega⟩
    by_cases h2 : (s.size : Int) ≤ (m : Int)
    · have e1 : fitB s m = true := by simp [fitB, h1, h2]
      have e2 : fillS s m = s ++ zeros (m - s.size) := by simp [fillS, e1]
      have k1 : ¬ m < s.size := by omega
      have k2 : IntKind.i64.wrap ((m : Int) - (s.size : Int)) = ((m - s.size : Nat) : Int) := by rw [IntWalk.i64_in _ (by omega)]; omega
      have k3 : ¬ 9223372036854775807 < s.size + (zeros (m - s.size)).size := by rw [zeros_size]; omega
      have HZ := Lib.hid (fun w => l10Zeros_any (m - s.size) w (by omega))
      have H1 := Lib.hid h1
      rw [e1, e2]
      clear e1 e2 b1 b2 h2
      go_enter Tryd.func10, Tryd.ntmps10
      go_wp2_with (first | (go_at_call 19; refine (l6In_any _ _ _ _).mono ?_; rintro e w' ⟨rfl, rfl⟩) | (go_at_call 20; refine (HZ.out _).mono ?_; rintro e w1 ⟨rfl, hb1⟩))
      go_ret2
      exact ⟨rfl, by (repeat (first | assumption | exact Below.refl _ _ | refine below_alloc ?_ _ | refine Below.drew ?_ | refine below_drewN ?_ _ | refine below_set ?_ (by first | exact Nat.le_refl _ | omega | (simp; done) | (simp; omega)) _ | refine below_kp ?_ (by assumption) (by simp) | refine below_below ?_ (by assumption)))⟩
    · have e1 : fitB s m = false := by simp [fitB, h2]
      have e2 : fillS s m = ⟨#[]⟩ := by simp [fillS, e1]
      have k1 : m < s.size := by omega
      rw [e1, e2]
      clear e1 e2 b1 b2 h2
      go_enter Tryd.func10, Tryd.ntmps10
      go_wp2_with (go_at_call 19; refine (l6In_any _ _ _ _).mono ?_; rintro e w' ⟨rfl, rfl⟩)
      go_ret2
      exact ⟨rfl, by (repeat (first | assumption | exact Below.refl _ _ | refine below_alloc ?_ _ | refine Below.drew ?_ | refine below_drewN ?_ _ | refine below_set ?_ (by first | exact Nat.le_refl _ | omega | (simp; done) | (simp; omega)) _ | refine below_kp ?_ (by assumption) (by simp) | refine below_below ?_ (by assumption)))⟩
  · have h1' : inB n 0 12 = false := by simpa using h1
    have e1 : fitB s n = false := by simp [fitB, h1']
    have e2 : fillS s n = ⟨#[]⟩ := by simp [fillS, e1]
    rw [e1, e2]
    clear e1 e2 h1
    go_enter Tryd.func10, Tryd.ntmps10
    go_wp2_with (go_at_call 19; refine (l6In_any _ _ _ _).mono ?_; rintro e w' ⟨rfl, rfl⟩)
    go_ret2
    exact ⟨rfl, by (repeat (first | assumption | exact Below.refl _ _ | refine below_alloc ?_ _ | refine Below.drew ?_ | refine below_drewN ?_ _ | refine below_set ?_ (by first | exact Nat.le_refl _ | omega | (simp; done) | (simp; omega)) _ | refine below_kp ?_ (by assumption) (by simp) | refine below_below ?_ (by assumption)))⟩

theorem repeatZ (k : Nat) (w : World) (h : k ≤ 12) : Calls Tryd.prog 18 #[.string ⟨#[0]⟩, .int .i64 k] w fun e w' => e = .returned (.string (zeros k)) ∧ Below w.heap.size w w' := by
  have H := Tryd.strings_Repeat ⟨#[0]⟩ k w (by omega) (by show 1 * k ≤ _; omega)
  rw [← repeat_zeros]
  exact H

theorem fill_any (s : ByteArray) (n : Int) (w : World) (hs : s.size ≤ 1048576) :
    Calls Tryd.prog 9 #[.string s, .int .i64 n] w fun e w' => e = .returned (.tuple #[.string (fillS s n), .bool (fitB s n)]) ∧ Below w.heap.size w w' := by
  by_cases h1 : inB n 0 12 = true
  · obtain ⟨b1, b2⟩ := inB_true h1
    obtain ⟨m, rfl⟩ : ∃ m : Nat, n = (m : Int) := ⟨n.toNat, by omega⟩
    by_cases h2 : (s.size : Int) ≤ (m : Int)
    · have e1 : fitB s m = true := by simp [fitB, h1, h2]
      have e2 : fillS s m = s ++ zeros (m - s.size) := by simp [fillS, e1]
      have k1 : ¬ m < s.size := by omega
      have k2 : IntKind.i64.wrap ((m : Int) - (s.size : Int)) = ((m - s.size : Nat) : Int) := by rw [IntWalk.i64_in _ (by omega)]; omega
      have k3 : ¬ 9223372036854775807 < s.size + (zeros (m - s.size)).size := by rw [zeros_size]; omega
      have HZ := Lib.hid (fun w => repeatZ (m - s.size) w (by omega))
      have H1 := Lib.hid h1
      rw [e1, e2]
      clear e1 e2 b1 b2 h2
      go_enter Tryd.func9, Tryd.ntmps9
      go_wp2_with (first | (go_at_call 17; refine (within_any _ _ _ _).mono ?_; rintro e w' ⟨rfl, rfl⟩) | (go_at_call 18; refine (HZ.out _).mono ?_; rintro e w1 ⟨rfl, hb1⟩))
      go_ret2
      exact ⟨rfl, by (repeat (first | assumption | exact Below.refl _ _ | refine below_alloc ?_ _ | refine Below.drew ?_ | refine below_drewN ?_ _ | refine below_set ?_ (by first | exact Nat.le_refl _ | omega | (simp; done) | (simp; omega)) _ | refine below_kp ?_ (by assumption) (by simp) | refine below_below ?_ (by assumption)))⟩
    · have e1 : fitB s m = false := by simp [fitB, h2]
      have e2 : fillS s m = ⟨#[]⟩ := by simp [fillS, e1]
      have k1 : m < s.size := by omega
      rw [e1, e2]
      clear e1 e2 b1 b2 h2
      go_enter Tryd.func9, Tryd.ntmps9
      go_wp2_with (go_at_call 17; refine (within_any _ _ _ _).mono ?_; rintro e w' ⟨rfl, rfl⟩)
      go_ret2
      exact ⟨rfl, by (repeat (first | assumption | exact Below.refl _ _ | refine below_alloc ?_ _ | refine Below.drew ?_ | refine below_drewN ?_ _ | refine below_set ?_ (by first | exact Nat.le_refl _ | omega | (simp; done) | (simp; omega)) _ | refine below_kp ?_ (by assumption) (by simp) | refine below_below ?_ (by assumption)))⟩
  · have h1' : inB n 0 12 = false := by simpa using h1
    have e1 : fitB s n = false := by simp [fitB, h1']
    have e2 : fillS s n = ⟨#[]⟩ := by simp [fillS, e1]
    rw [e1, e2]
    clear e1 e2 h1
    go_enter Tryd.func9, Tryd.ntmps9
    go_wp2_with (go_at_call 17; refine (within_any _ _ _ _).mono ?_; rintro e w' ⟨rfl, rfl⟩)
    go_ret2
    exact ⟨rfl, by (repeat (first | assumption | exact Below.refl _ _ | refine below_alloc ?_ _ | refine Below.drew ?_ | refine below_drewN ?_ _ | refine below_set ?_ (by first | exact Nat.le_refl _ | omega | (simp; done) | (simp; omega)) _ | refine below_kp ?_ (by assumption) (by simp) | refine below_below ?_ (by assumption)))⟩

end Go.Proofs.YtnejbeblkjfcbaaDoor
