/- Pointers drawn: the reference's PtrOf. -/
import Derived.Test.YtamljoffmkcbnaaSum
import Derived.Test.YtamljoffmkcbnaaBox
import Derived.Test.YtamljoffmkcbnaaPick
namespace Go.Proofs.Ytamljoffmkcbnaa
open Go.RowKit Go.Sort
set_option maxRecDepth 100000
set_option linter.unusedVariables false
set_option linter.unusedSimpArgs false

theorem l2Block_any (s : ByteArray) (w : World) (hs : s.size ≤ 9223372036854775807) : Calls Try.prog 90 #[.string s] w fun e w' => e = .returned (.bool (inB (s.size : Int) 1 128)) ∧ w = w' := by
  go_enter Try.func90, Try.ntmps90
  go_wp2_with fail
  refine Calls.mono (l6In_any _ _ _ _) ?_
  rintro e w2 ⟨rfl, rfl⟩
  go_wp2_with fail
  go_ret
  exact ⟨rfl, rfl⟩

/-- Some pointer, and whether it is one. -/
def SomeP (w : World) (e : Ending) (w' : World) : Prop := ∃ (p : Pt) (b : Bool), e = .returned (.tuple #[p.v, .bool b]) ∧ Below w.heap.size w w'

set_option maxHeartbeats 2000000 in
theorem specPtrOf_any (w : World) (a b l : Int) (s : ByteArray) (hs : s.size ≤ 9223372036854775807) : Calls Try.prog 64 #[.int .i64 a, .int .i64 b, .int .i64 l, .string s] w (SomeP w) := by
  have HS := Lib.hid (fun w => specSumOf_any s w hs)
  generalize sumL s.data.toList = r at *
  have HP := Lib.hid (specPtrOk_any ⟨a, b, s.size, r, l⟩)
  generalize ptrB ⟨a, b, s.size, r, l⟩ = pb at *
  unfold Pt.v at HP
  dsimp only at HP
  go_enter Try.func64, Try.ntmps64
  go_wp2_with fail
  refine Calls.mono (l2Block_any s _ hs) ?_
  rintro e w2 ⟨rfl, rfl⟩
  cases hb : inB (s.size : Int) 1 128
  · go_wp2_with fail
    refine bodyPost_ret (v := .tuple #[.agg #[.int .i64 0, .int .i64 0, .int .i64 0, .int .i64 0, .int .i64 0], .bool false]) (by simp [results, Try.results64, go_sem]) rfl ⟨⟨0, 0, 0, 0, 0⟩, false, rfl, by (repeat (first | assumption | exact Below.refl _ _ | refine below_alloc ?_ _ | refine Below.drew ?_ | refine below_drewN ?_ _ | refine below_set ?_ (by first | exact Nat.le_refl _ | omega | (simp; done) | (simp; omega)) _ | refine below_kp ?_ (by assumption) (by simp) | refine below_below ?_ (by assumption)))⟩
  · go_wp2_with fail
    refine Calls.mono (HS.out _) ?_
    rintro e w3 ⟨rfl, rfl⟩
    go_wp2_with fail
    refine Calls.mono (HP.out _) ?_
    rintro e w4 ⟨rfl, hB⟩
    have HB4 := Lib.hid (below_below (below_alloc (below_alloc (Below.refl w.heap.size w) (.cells #[.int .i64 0, .int .i64 0, .int .i64 0, .int .i64 0, .int .i64 0] 29)) (.cells #[.int .i64 a, .int .i64 b, .int .i64 (s.size : Int), .int .i64 r, .int .i64 l] 29)) hB)
    have RC := Lib.hid (((box_new w #[.int .i64 0, .int .i64 0, .int .i64 0, .int .i64 0, .int .i64 0] 29).alloc (.cells #[.int .i64 a, .int .i64 b, .int .i64 (s.size : Int), .int .i64 r, .int .i64 l] 29)).below hB)
    have PX := box_new (w.alloc (.cells #[.int .i64 0, .int .i64 0, .int .i64 0, .int .i64 0, .int .i64 0] 29)) #[.int .i64 a, .int .i64 b, .int .i64 (s.size : Int), .int .i64 r, .int .i64 l] 29
    rw [World.size_alloc] at PX
    have PX4 := Lib.hid (PX.below hB)
    have rc := RC.out.cell
    have rf := RC.out.froz
    have rl := RC.out.lt
    have pc := PX4.out.cell
    have pcl := PX4.out.lt
    clear PX hB
    cases pb
    · go_wp2_with fail
      refine bodyPost_ret (v := .tuple #[.agg #[.int .i64 0, .int .i64 0, .int .i64 0, .int .i64 0, .int .i64 0], .bool false]) (by simp [results, Try.results64, go_sem, rc, rl]) rfl ⟨⟨0, 0, 0, 0, 0⟩, false, rfl, ?_⟩
      exact (below_set (below_set (below_set (below_set (below_set HB4.out (p := ⟨w.heap.size, 0, none⟩) (Nat.le_refl _) (.int .i64 0)) (p := ⟨w.heap.size, 1, none⟩) (Nat.le_refl _) (.int .i64 0)) (p := ⟨w.heap.size, 2, none⟩) (Nat.le_refl _) (.int .i64 0)) (p := ⟨w.heap.size, 3, none⟩) (Nat.le_refl _) (.int .i64 0)) (p := ⟨w.heap.size, 4, none⟩) (Nat.le_refl _) (.int .i64 0))
    · go_wp2_with fail
      refine bodyPost_ret (v := .tuple #[.agg #[.int .i64 a, .int .i64 b, .int .i64 (s.size : Int), .int .i64 r, .int .i64 l], .bool true]) (by simp [results, Try.results64, go_sem, rc, rl]) rfl ⟨⟨a, b, s.size, r, l⟩, true, rfl, ?_⟩
      exact (below_set (below_set (below_set (below_set (below_set HB4.out (p := ⟨w.heap.size, 0, none⟩) (Nat.le_refl _) (.int .i64 a)) (p := ⟨w.heap.size, 1, none⟩) (Nat.le_refl _) (.int .i64 b)) (p := ⟨w.heap.size, 2, none⟩) (Nat.le_refl _) (.int .i64 (s.size : Int))) (p := ⟨w.heap.size, 3, none⟩) (Nat.le_refl _) (.int .i64 r)) (p := ⟨w.heap.size, 4, none⟩) (Nat.le_refl _) (.int .i64 l))

/-- A number was drawn. -/
def NumD (d : Nat) (w : World) (rb p : Nat) (e : Ending) (w' : World) : Prop := ∃ (z : Int) (q : Nat), e = .returned (.int .i64 z) ∧ Rs w' rb (p + q) ∧ q ≤ d ∧ Kp [rb] w w'

set_option maxHeartbeats 1600000 in
theorem l91Row_any (w : World) (rb p : Nat) (h : Rs w rb p) (hp : p ≤ 1000000) :
    Calls Try.prog 92 #[.pointer (some ⟨rb, 0, none⟩)] w (NumD 2 w rb p) := by
  have hr := h
  clear h
  have hl := hr.lt
  go_enter Try.func92, Try.ntmps92
  go_wp2_with fail
  refine Calls.mono (pick_nat _ _ _ _ hr (by omega) (by omega) (by omega)) ?_
  rintro e w1 ⟨k, rfl, hk0, hr1, hk1⟩
  have hl1 := hr1.lt
  have hne : ¬ w1.heap.size = rb := by omega
  by_cases hz : (k : Int) = 0
  · have hz' : ((k : Int) == 0) = true := by simpa using hz
    go_wp2_with fail
    refine Calls.mono (pick_nat _ _ _ _ (Rs.alloc hr1 _) (by omega) (by omega) (by omega)) ?_
    rintro e w2 ⟨j, rfl, hj0, hr2, hk2⟩
    have hru := hk2.rule
    have hsz := hk2.size
    simp only [World.size_alloc, Nat.add_one_le_iff] at hsz
    obtain ⟨z, hzz⟩ := lit_int [-1, 0, 3, 7, 64, 63] j hj0
    simp only [List.map] at hzz
    have hj1 : (j : Int) < 6 := by simp at hj0; omega
    clear hj0
    have K := Lib.hid (show Kp [rb] w w2 from (hk1.alloc _).trans hk2)
    go_wp2_with fail
    go_ret
    exact ⟨z, 2, rfl, hr2, Nat.le_refl _, K.out⟩
  · have hz' : ((k : Int) == 0) = false := by simpa using hz
    go_wp2_with fail
    refine Calls.mono (pick_nat _ _ _ _ hr1 (by omega) (by omega) (by omega)) ?_
    rintro e w2 ⟨j, rfl, hj0, hr2, hk2⟩
    have hj1 : (j : Int) < 12 := by simp at hj0; omega
    clear hj0
    have K := Lib.hid (show Kp [rb] w w2 from hk1.trans hk2)
    go_wp2_with fail
    go_ret
    exact ⟨_, 2, rfl, hr2, Nat.le_refl _, K.out⟩

end Go.Proofs.Ytamljoffmkcbnaa
