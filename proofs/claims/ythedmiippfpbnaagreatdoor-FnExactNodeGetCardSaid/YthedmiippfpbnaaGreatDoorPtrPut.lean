/- PtrPut: both texts' walks. -/
import Derived.Test.YthedmiippfpbnaaGreatDoorPtrPlain
import Derived.Test.YthedmiippfpbnaaGreatDoorNum
namespace Go.Proofs.YthedmiippfpbnaaGreatDoor
open Go.RowKit
set_option maxRecDepth 100000
set_option linter.unusedVariables false
set_option linter.unusedSimpArgs false

theorem decT_le {n : Int} (h0 : 0 ≤ n) (h1 : n ≤ 999999999) : (decT n).size ≤ 20 := by
  have h10 : (10 : Nat) ^ (19 + 1) = 100000000000000000000 := by decide
  have := dec_len 19 n.toNat (by omega)
  rw [decT, ofL_size, decL]
  omega
set_option maxHeartbeats 4000000 in
theorem specPtrPut_any (w : World) (p : Pt) : Calls Tryz.prog 26 #[p.v] w fun e w' => e = .returned (.string (ptrT p)) ∧ Below w.heap.size w w' := by
  have HO := Lib.hid (fun w => specPtrOk_any p w)
  have HH := Lib.hid (fun w => specPtrHole_any p w)
  have HT : Hid (ptrB p = false → ptrT p = ⟨#[]⟩) := Lib.hid (fun h => by rw [ptrT, if_neg (by simp [h])])
  have HT1 : Hid (ptrB p = true → holeB p = true → ptrT p = ⟨#[45]⟩) := Lib.hid (fun h h2 => by rw [ptrT, if_pos h, ptrL, if_pos h2]; rfl)
  have HBD := Lib.hid (fun (h : ptrB p = true) => ptr_bounds h)
  have HT2 : Hid (ptrB p = true → holeB p = false → ptrT p = decT p.at_ ++ ⟨#[46]⟩ ++ decT p.birth ++ ⟨#[46]⟩ ++ decT p.size ++ ⟨#[46]⟩ ++ decT p.sum ++ ⟨#[46]⟩ ++ decT p.level) := Lib.hid (fun h h2 => by
    rw [ptrT, if_pos h, ptrL, if_neg (by simp [h2])]
    refine ofL_ext ?_
    simp [bytes_append, decT_data, ofL_data])
  generalize ptrT p = T at *
  obtain ⟨a, b, s, u, l⟩ := p
  unfold Pt.v at *
  dsimp only at *
  have HBa := Lib.hid (below_alloc (Below.refl w.heap.size w) (.cells #[.int .i64 a, .int .i64 b, .int .i64 s, .int .i64 u, .int .i64 l] 23))
  go_enter Tryz.func26, Tryz.ntmps26
  go_wp2_with fail
  refine Calls.mono (HO.out _) ?_
  rintro e w1 ⟨rfl, hB⟩
  have HB1 := Lib.hid (below_below HBa.out hB)
  obtain ⟨c1, f1⟩ := bcell hB
  have l1 : w.heap.size < w1.heap.size := (by have := hB.size; simp at this; omega)
  clear hB
  cases hk : ptrB ⟨a, b, s, u, l⟩
  · obtain rfl := HT.out hk
    go_wp2_with fail
    go_ret
    exact ⟨rfl, HB1.out⟩
  go_wp2_with fail
  refine Calls.mono (HH.out _) ?_
  rintro e w2 ⟨rfl, hB⟩
  have HB2 := Lib.hid (below_below HB1.out hB)
  obtain ⟨c2, f2⟩ := bcell hB
  have l2 : w.heap.size < w2.heap.size := Nat.lt_of_lt_of_le l1 hB.size
  clear hB
  cases hh : holeB ⟨a, b, s, u, l⟩
  · have hT := HT2.out hk hh
    obtain ⟨a0, a1, b0, b1, s0, s1, u0, u1, m0, m1⟩ := HBD.out hk
    dsimp only at *
    clear HT HT1 HT2 HBD HO HH
    have za := decT_le a0 a1
    have zb := decT_le b0 b1
    have zs := decT_le s0 s1
    have zu := decT_le u0 u1
    have zl := decT_le m0 m1
    obtain ⟨a, rfl⟩ := Int.eq_ofNat_of_zero_le a0
    obtain ⟨b, rfl⟩ := Int.eq_ofNat_of_zero_le b0
    obtain ⟨s, rfl⟩ := Int.eq_ofNat_of_zero_le s0
    obtain ⟨u, rfl⟩ := Int.eq_ofNat_of_zero_le u0
    obtain ⟨l, rfl⟩ := Int.eq_ofNat_of_zero_le m0
    have QA := Lib.hid (fun w => dec_any a w (by omega))
    have QB := Lib.hid (fun w => dec_any b w (by omega))
    have QC := Lib.hid (fun w => dec_any s w (by omega))
    have QD := Lib.hid (fun w => dec_any u w (by omega))
    have QE := Lib.hid (fun w => dec_any l w (by omega))
    generalize decT (a : Int) = A at *
    generalize decT (b : Int) = B at *
    generalize decT (s : Int) = C at *
    generalize decT (u : Int) = D at *
    generalize decT (l : Int) = E at *
    have HTT := Lib.hid hT
    clear hT
    have h46 : (⟨#[46]⟩ : ByteArray).size = 1 := rfl
    have g1 : ¬ 9223372036854775807 < A.size + (⟨#[46]⟩ : ByteArray).size := by omega
    have g2 : ¬ 9223372036854775807 < (A ++ ⟨#[46]⟩ : ByteArray).size + B.size := by simp only [ByteArray.size_append]; omega
    have g3 : ¬ 9223372036854775807 < (A ++ ⟨#[46]⟩ ++ B : ByteArray).size + (⟨#[46]⟩ : ByteArray).size := by simp only [ByteArray.size_append]; omega
    have g4 : ¬ 9223372036854775807 < (A ++ ⟨#[46]⟩ ++ B ++ ⟨#[46]⟩ : ByteArray).size + C.size := by simp only [ByteArray.size_append]; omega
    have g5 : ¬ 9223372036854775807 < (A ++ ⟨#[46]⟩ ++ B ++ ⟨#[46]⟩ ++ C : ByteArray).size + (⟨#[46]⟩ : ByteArray).size := by simp only [ByteArray.size_append]; omega
    have g6 : ¬ 9223372036854775807 < (A ++ ⟨#[46]⟩ ++ B ++ ⟨#[46]⟩ ++ C ++ ⟨#[46]⟩ : ByteArray).size + D.size := by simp only [ByteArray.size_append]; omega
    have g7 : ¬ 9223372036854775807 < (A ++ ⟨#[46]⟩ ++ B ++ ⟨#[46]⟩ ++ C ++ ⟨#[46]⟩ ++ D : ByteArray).size + (⟨#[46]⟩ : ByteArray).size := by simp only [ByteArray.size_append]; omega
    have g8 : ¬ 9223372036854775807 < (A ++ ⟨#[46]⟩ ++ B ++ ⟨#[46]⟩ ++ C ++ ⟨#[46]⟩ ++ D ++ ⟨#[46]⟩ : ByteArray).size + E.size := by simp only [ByteArray.size_append]; omega
    clear h46
    go_wp2_with fail
    refine wp_quiet_b (by kernel_rfl) (by kernel_rfl) (fun hgrow => ?_)
    repeat (go_big_quiet_step ((first | (go_at_call 25; with_reducible exact quiet_b (QA.out _)) | (go_at_call 25; with_reducible exact quiet_b (QB.out _)) | (go_at_call 25; with_reducible exact quiet_b (QC.out _)) | (go_at_call 25; with_reducible exact quiet_b (QD.out _)) | (go_at_call 25; with_reducible exact quiet_b (QE.out _)))))
    refine wpQuiet_nil ?_
    intro wz hwwz
    replace hwwz := below_of_regrown hwwz
    clear hgrow
    have HB3 := Lib.hid (below_below HB2.out hwwz)
    go_wp2_with fail
    go_ret
    exact ⟨by rw [HTT.out]; rfl, HB3.out⟩
  · obtain rfl := HT1.out hk hh
    go_wp2_with fail
    go_ret
    exact ⟨rfl, HB2.out⟩
end Go.Proofs.YthedmiippfpbnaaGreatDoor
