/- The columns of a block, as the reference cuts them. -/
import Derived.Test.YtamljoffmkcbnaaStripe2
import Derived.Test.YtamljoffmkcbnaaRaidMem
import Derived.StillTailTactics
namespace Go.Proofs.Ytamljoffmkcbnaa
open Go.RowKit
set_option maxRecDepth 100000
set_option linter.unusedVariables false
set_option linter.unusedSimpArgs false

/-- Three columns, in a row of their own. -/
def CutP (w : World) (e : Ending) (w' : World) : Prop := ∃ (b : Nat) (c0 c1 c2 : ByteArray), e = .returned (.slice (some ⟨b, 0, none⟩) 3 3) ∧ BoxAt w' b #[.string c0, .string c1, .string c2] 9 ∧ c0.size ≤ 200 ∧ c1.size ≤ 200 ∧ c2.size ≤ 200 ∧ w.heap.size ≤ b ∧ Below w.heap.size w w'

set_option maxHeartbeats 4000000 in
theorem l4Cut_any (w : World) (s : ByteArray) (h1 : 1 ≤ s.size) (h2 : s.size ≤ 128) : Calls Try.prog 66 #[.string s] w (CutP w) := by
  obtain ⟨h, hh⟩ : ∃ h, (s.size + 1) / 2 = h := ⟨_, rfl⟩
  have b1 : 1 ≤ h := by omega
  have b2 : h ≤ s.size := by omega
  have b3 : h ≤ 64 := by omega
  have HH := Lib.hid (l4Half_any s.size h hh (by omega))
  clear hh
  have B0 := Lib.hid (below_alloc (Below.refl w.heap.size w) (.cells #[] 5))
  have O0 := Lib.hid (Own.empty (enc := encB) (sz := 1) (T := 5) (base := w.heap.size) (w := w) (Nat.le_refl _))
  go_enter Try.func66, Try.ntmps66
  go_wp2_with (go_at_call 83; refine Calls.mono (HH.out _) ?_; rintro e w' ⟨rfl, rfl⟩)
  go_loopw [4, 5] (fun v y wr => ∃ (k : Nat) (l : List UInt8), k ≤ h ∧ y = .int .i64 k ∧ Hid (Own encB 1 5 w.heap.size wr v l) ∧ Hid (l.length = k) ∧ v.ownBlock ≠ none ∧ Hid (Below w.heap.size w wr)) (fun _ y _ => h - (intOf y).toNat)
  case atStart => exact ⟨0, [], Nat.zero_le _, rfl, O0, Lib.hid rfl, by simp [Value.ownBlock], B0⟩
  case round =>
    clear O0 B0
    obtain ⟨k, l, hk, rfl, HO, HL, hob, HB⟩ := hrel
    by_cases hlt : k < h
    · have k2 : IntKind.i64.wrap ((k : Int) + 1) = (k : Int) + 1 := IntWalk.i64_in _ (by omega)
      have k3 : IntKind.i64.wrap ((h : Int) + (k : Int)) = (h : Int) + (k : Int) := IntWalk.i64_in _ (by omega)
      have hkp : k < s.size := by omega
      have KA := Lib.hid (And.intro (show (l.length + 1) * 1 ≤ 140737488355328 by have := HL.out; omega) (show l.length + 1 ≤ maxLen by have := HL.out; unfold maxLen; omega))
      by_cases hko : h + k < s.size
      · have HX := Lib.hid (xor8 s[k] s[h + k])
        have x3 : (h : Int) + (k : Int) < (s.size : Int) := by omega
        have x4 : (0 : Int) ≤ (h : Int) + (k : Int) := by omega
        have x5 : ((h : Int) + (k : Int)).toNat = h + k := by omega
        go_wp2_with (at_builtin; refine wpList_app (ys := ([s[k] ^^^ s[h + k]] : List UInt8)) elB rfl _ _ rfl (by rfl) (own_allocB HO.out _) (by rfl) rfl (rd_oneB _ _ _ HX.out) oneB KA.out.1 KA.out.2 (below_alloc HB.out _).size ?_; intro v1 w4 ownv1 grv1 atv1; have O4 := Lib.hid ownv1; have B4 := Lib.hid (below_grown (below_alloc HB.out _) (own_allocB HO.out _) grv1); have hob4 : v1.ownBlock ≠ none := (by rcases atv1 with h | h <;> rw [h] <;> first | exact hob | simp); clear ownv1 grv1 atv1)
        go_roundw
        case rel => exact ⟨k + 1, l ++ [s[k] ^^^ s[h + k]], by omega, by go_num, O4, Lib.hid (by simp; exact HL.out), hob4, B4⟩
        case measure => simp [intOf]; omega
      · have HX := Lib.hid (show ((s[k].toNat : Nat) : Int) = (s[k].toNat : Int) from rfl)
        go_wp2_with (at_builtin; refine wpList_app (ys := ([s[k]] : List UInt8)) elB rfl _ _ rfl (by rfl) (own_allocB HO.out _) (by rfl) rfl (rd_oneB _ _ _ HX.out) oneB KA.out.1 KA.out.2 (below_alloc HB.out _).size ?_; intro v1 w4 ownv1 grv1 atv1; have O4 := Lib.hid ownv1; have B4 := Lib.hid (below_grown (below_alloc HB.out _) (own_allocB HO.out _) grv1); have hob4 : v1.ownBlock ≠ none := (by rcases atv1 with h | h <;> rw [h] <;> first | exact hob | simp); clear ownv1 grv1 atv1)
        go_roundw
        case rel => exact ⟨k + 1, l ++ [s[k]], by omega, by go_num, O4, Lib.hid (by simp; exact HL.out), hob4, B4⟩
        case measure => simp [intOf]; omega
    · obtain rfl : k = h := by omega
      have hcv : (convert 22 9 _).run Try.prog wr.drew = _ := conv_bytes (HO.out.below (Below.drew (Below.refl _ _))) hob
      have HS := Lib.hid (show (⟨l.toArray⟩ : ByteArray).size ≤ 200 by show l.toArray.size ≤ 200; have := HL.out; simp; omega)
      have x1 : (k : Int) ≤ (s.size : Int) := by omega
      have x2 : (0 : Int) ≤ (k : Int) := by omega
      go_wp2_with fail
      go_still_tail 8, (by kernel_rfl)
      go_wp2_with fail
      go_ret
      exact ⟨wr.heap.size, s.extract 0 k, s.extract k s.size, ⟨l.toArray⟩, rfl, box_new wr _ _, by rw [ByteArray.size_extract]; omega, by rw [ByteArray.size_extract]; omega, HS.out, HB.out.size, (below_alloc HB.out (.cells #[.string (s.extract 0 k), .string (s.extract k s.size), .string ⟨l.toArray⟩] 9)).drew⟩

end Go.Proofs.Ytamljoffmkcbnaa
