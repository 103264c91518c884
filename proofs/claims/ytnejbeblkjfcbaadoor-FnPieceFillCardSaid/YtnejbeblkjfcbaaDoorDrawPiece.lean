/- What the laws on pieces draw. -/
import Derived.Test.YtnejbeblkjfcbaaDoorDrawText
import Derived.Test.YtnejbeblkjfcbaaDoorPieceCut
namespace Go.Proofs.YtnejbeblkjfcbaaDoor
open Go.RowKit
set_option linter.unusedVariables false
set_option linter.unusedSimpArgs false

def StrP (w : World) (e : Ending) (w' : World) : Prop := ∃ s : ByteArray, e = .returned (.string s) ∧ s.size ≤ 64 ∧ Below w.heap.size w w'
def StrI (w : World) (e : Ending) (w' : World) : Prop := ∃ (s : ByteArray) (n : Int), e = .returned (.tuple #[.string s, .int .i64 n]) ∧ s.size ≤ 64 ∧ Below w.heap.size w w'
theorem kp_belowP {w w1 w2 : World} {rb : Nat} (h : Below w.heap.size w w1) (hk : Kp [rb] w1 w2) (hr : w.heap.size ≤ rb) : Below w.heap.size w w2 := below_kp h hk (fun k hk => by simp at hk; omega)

set_option maxHeartbeats 1600000 in
theorem drawPieceFill_any (w : World) (A : Option Addr) (cap : Nat) (zs : List Int) (h : RdT (encI .u8) 1 w A zs) (hb : ∀ z ∈ zs, 0 ≤ z ∧ z ≤ 255) (hc : zs.length ≤ cap) (hm : cap ≤ 9223372036854775807) :
    Calls Tryd.prog 8 #[.slice A zs.length cap] w (StrI w) := by
  have HO := Lib.hid (open_any w A cap zs h hb hc hm)
  clear h hb
  generalize zs.length = n at HO hc ⊢
  go_enter Tryd.func8, Tryd.ntmps8
  go_wp2_with fail
  refine Calls.mono HO.out ?_
  rintro e w1 ⟨rfl, hr, hB⟩
  have HB := Lib.hid hB
  clear hB
  go_wp2_with fail
  refine Calls.mono (l91Text_any _ _ _ 9 hr (by omega) (by omega)) ?_
  rintro e w2 ⟨s, q, rfl, hs, hr2, hq, hk⟩
  have HB2 := Lib.hid (kp_belowP HB.out hk (Nat.le_refl _))
  clear hk
  go_wp2_with fail
  refine Calls.mono (pick_nat _ w.heap.size (0 + q) _ hr2 (by omega) (by omega) (by omega)) ?_
  rintro e w3 ⟨j, rfl, hj, hr3, hk⟩
  have HB3 := Lib.hid (kp_belowP HB2.out hk (Nat.le_refl _))
  have hj' : j < 16 := by simpa using hj
  clear hk hj
  go_wp2_with fail
  go_ret2
  exact ⟨s, _, rfl, by omega, HB3.out⟩

set_option maxHeartbeats 1600000 in
theorem drawPieceCut_any (w : World) (A : Option Addr) (cap : Nat) (zs : List Int) (h : RdT (encI .u8) 1 w A zs) (hb : ∀ z ∈ zs, 0 ≤ z ∧ z ≤ 255) (hc : zs.length ≤ cap) (hm : cap ≤ 9223372036854775807) :
    Calls Tryd.prog 11 #[.slice A zs.length cap] w (StrP w) := by
  have HO := Lib.hid (open_any w A cap zs h hb hc hm)
  clear h hb
  generalize zs.length = n at HO hc ⊢
  go_enter Tryd.func11, Tryd.ntmps11
  go_wp2_with fail
  refine Calls.mono HO.out ?_
  rintro e w1 ⟨rfl, hr, hB⟩
  have HB := Lib.hid hB
  clear hB
  go_wp2_with fail
  refine Calls.mono (l91Text_any _ _ _ 13 hr (by omega) (by omega)) ?_
  rintro e w2 ⟨s, q, rfl, hs, hr2, hq, hk⟩
  have HB2 := Lib.hid (kp_belowP HB.out hk (Nat.le_refl _))
  clear hk
  go_wp2_with fail
  refine Calls.mono (pick_nat _ w.heap.size (0 + q) _ hr2 (by omega) (by omega) (by omega)) ?_
  rintro e w3 ⟨j, rfl, hj, hr3, hk⟩
  have HB3 := Lib.hid (kp_belowP HB2.out hk (Nat.le_refl _))
  have hj' : j < 5 := by simpa using hj
  clear hk hj
  go_wp2_with fail
  refine Calls.mono (pick_nat _ w.heap.size (0 + q + 1) _ hr3 (by omega) (by omega) (by omega)) ?_
  rintro e w4 ⟨i, rfl, hi, hr4, hk⟩
  have HB4 := Lib.hid (kp_belowP HB3.out hk (Nat.le_refl _))
  have hi' : i < 3 := by simpa using hi
  have hij : j * i ≤ 8 := Nat.le_trans (Nat.mul_le_mul (show j ≤ 4 by omega) (show i ≤ 2 by omega)) (by omega)
  have hcast : ((j : Int) * (i : Int)) = ((j * i : Nat) : Int) := by simp
  have hw : IntKind.i64.wrap ((j : Int) * (i : Int)) = ((j * i : Nat) : Int) := by rw [hcast, IntWalk.i64_in _ (by omega)]
  have HZ := Lib.hid (fun w => l10Zeros_any (j * i) w (by omega))
  clear hk hi hcast
  generalize j * i = m at *
  have g1 : ¬ 9223372036854775807 < s.size + (zeros m).size := by rw [zeros_size]; omega
  have g2 : (s ++ zeros m).size ≤ 64 := by rw [ByteArray.size_append, zeros_size]; omega
  go_wp2_with fail
  refine Calls.mono (HZ.out _) ?_
  rintro e w5 ⟨rfl, hB⟩
  have HB5 := Lib.hid (below_below HB4.out hB)
  clear hB
  go_wp2_with fail
  go_ret
  exact ⟨_, rfl, g2, HB5.out⟩

end Go.Proofs.YtnejbeblkjfcbaaDoor
