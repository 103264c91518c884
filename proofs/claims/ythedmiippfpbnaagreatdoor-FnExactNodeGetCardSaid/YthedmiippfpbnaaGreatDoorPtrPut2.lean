/- The program's PtrPut: its parts, its loop. -/
import Derived.Test.YthedmiippfpbnaaGreatDoorPtrPut
import Derived.Test.YthedmiippfpbnaaGreatDoorBox
import Derived.Test.YthedmiippfpbnaaGreatDoorPathSpec
import Derived.Test.YthedmiippfpbnaaGreatDoorIntS
namespace Go.Proofs.YthedmiippfpbnaaGreatDoor
open Go.RowKit
set_option maxRecDepth 100000
set_option linter.unusedVariables false
set_option linter.unusedSimpArgs false

set_option maxHeartbeats 4000000 in
theorem parts_any (w : World) (b : Nat) (hb : b < w.heap.size) : Calls Tryz.prog 47 #[.pointer (some ⟨b, 0, none⟩)] w fun e w' => e = .returned (.slice (some ⟨w.heap.size, 0, none⟩) 5 5) ∧ BoxAt w' w.heap.size #[.pointer (some ⟨b, 0, none⟩), .pointer (some ⟨b, 1, none⟩), .pointer (some ⟨b, 2, none⟩), .pointer (some ⟨b, 3, none⟩), .pointer (some ⟨b, 4, none⟩)] 41 ∧ Below w.heap.size w w' := by
  go_enter Tryz.func47, Tryz.ntmps47
  go_wp2_with fail
  go_region_with fail
  all_goals go_wp2_with fail
  all_goals go_ret
  all_goals exact ⟨rfl, box_new _ _ _, by (repeat (first | assumption | exact Below.refl _ _ | refine below_alloc ?_ _ | refine Below.drew ?_ | refine below_drewN ?_ _ | refine below_set ?_ (by first | exact Nat.le_refl _ | omega | (simp; done) | (simp; omega)) _ | refine below_kp ?_ (by assumption) (by simp) | refine below_below ?_ (by assumption)))⟩

/-- The texts of the first k numbers, appended. -/
def NumRel (w : World) (zs : List Int) (k : Nat) (v : Value) (wr : World) : Prop := Own encS 1 9 w.heap.size wr v ((zs.take k).map numT) ∧ Below w.heap.size w wr
set_option maxHeartbeats 4000000 in
theorem numbers_any (w : World) (A : Option Addr) (cap : Nat) (zs : List Int) (hT : TenAt w) (h : RdT encN 1 w A zs) (hn : zs.length ≤ 10) (hc : zs.length ≤ cap) (hm : cap ≤ 9223372036854775807) :
    Calls Tryz.prog 34 #[.slice A zs.length cap] w fun e w' => ∃ v, e = .returned v ∧ Own encS 1 9 w.heap.size w' v (zs.map numT) ∧ Below w.heap.size w w' := by
  have HR := Lib.hid h
  have HT := Lib.hid hT
  clear h hT
  go_enter Tryz.func34, Tryz.ntmps34
  go_wp2_with fail
  go_loopw [3, 8] (fun v y wr => ∃ k : Nat, k ≤ zs.length ∧ y = .int .i64 k ∧ Hid (NumRel w zs k v wr)) (fun v y _ => zs.length - (intOf y).toNat)
  case atStart => exact ⟨0, Nat.zero_le _, rfl, Lib.hid ⟨Own.nil, Below.refl _ _⟩⟩
  case round =>
    obtain ⟨k, hk, rfl, hA⟩ := hrel
    obtain ⟨ho, hB⟩ := hA.out
    have HO := Lib.hid ho
    have HB := Lib.hid hB
    clear ho hB hA
    by_cases hlt : k < zs.length
    · obtain ⟨b, off, z, rfl, hb, hz, hcell⟩ := (HR.out.below HB.out).num hlt
      have k2 : IntKind.i64.wrap ((k : Int) + 1) = (k : Int) + 1 := IntWalk.i64_in _ (by omega)
      have HN := Lib.hid (numPut_any z wr (HT.out.below HB.out))
      have hlk : ((zs.take k).map numT).length = k := by simp; omega
      have K1 := Lib.hid (And.intro (show (((zs.take k).map numT).length + 1) * 16 ≤ 140737488355328 by omega) (show ((zs.take k).map numT).length + 1 ≤ maxLen by unfold maxLen; omega))
      have HZ := Lib.hid (show (zs.take k).map numT ++ [numT z] = (zs.take (k + 1)).map numT by rw [List.take_add_one, hz]; simp)
      clear hlk hz
      generalize zs.length = n at *
      go_wp2_with fail
      refine Calls.mono HN.out ?_
      rintro e w1 ⟨rfl, hB1⟩
      have HB1 := Lib.hid (below_below HB.out hB1)
      have HO1 := Lib.hid (HO.out.below hB1)
      clear hB1
      go_wp2_with (at_builtin; refine wpList_app (ys := ([numT z] : List ByteArray)) elS rfl _ _ rfl (by rfl) (own_allocS HO1.out _) (by rfl) rfl (rd_oneS _ _) oneS K1.out.1 K1.out.2 (below_alloc HB1.out _).size ?_; intro v1 w4 ownv1 grv1 atv1)
      refine ⟨⟨k + 1, by omega, rfl, Lib.hid ⟨by rw [← HZ.out]; exact ownv1, below_grown (below_alloc HB1.out _) (own_allocS HO1.out _) grv1⟩⟩, by simp [intOf]; omega⟩
    · obtain rfl : k = zs.length := by omega
      have ho := HO.out
      rw [List.take_length] at ho
      have HO1 := Lib.hid ho
      clear ho HO
      go_wp2_with fail
      go_ret
      exact ⟨_, rfl, HO1.out, HB.out⟩
theorem joinDot_any (w : World) (A : Option Addr) (cap : Nat) (xs : List ByteArray) (h : RdT encS 1 w A xs) (hn : 0 < xs.length) (hc : xs.length ≤ cap) (hlen : (Lib.join (xs.map (·.data.toList)) [46]).length ≤ 1000) (hx : xs.length ≤ 10) :
    Calls Tryz.prog 65 #[.slice A xs.length cap, .string ⟨#[46]⟩] w fun e w' => e = .returned (.string (ofL (Lib.join (xs.map (·.data.toList)) [46]))) ∧ Below w.heap.size w w' := by
  obtain ⟨b, off, rfl, hb, hr⟩ := h hn
  exact Tryz.strings_Join b off cap xs ⟨#[46]⟩ w (fun j x hj => by have := hr j x hj 0 (by omega); simpa [encS] using this) hb (by omega) hc (by have e : (⟨#[46]⟩ : ByteArray).data.toList = [46] := rfl; rw [e]; omega)
set_option maxHeartbeats 4000000 in
theorem ptrPut_any (w : World) (p : Pt) (hT : TenAt w) : Calls Tryz.prog 48 #[p.v] w fun e w' => e = .returned (.string (ptrT p)) ∧ Below w.heap.size w w' := by
  have HTen := Lib.hid hT
  clear hT
  have HO := Lib.hid (fun w => ptrOk_any p w)
  have HH := Lib.hid (fun w => ptrHole_any p w)
  have HT : Hid (ptrB p = false → ptrT p = ⟨#[]⟩) := Lib.hid (fun h => by rw [ptrT, if_neg (by simp [h])])
  have HT1 : Hid (ptrB p = true → holeB p = true → ptrT p = ⟨#[45]⟩) := Lib.hid (fun h h2 => by rw [ptrT, if_pos h, ptrL, if_pos h2]; rfl)
  have HBD := Lib.hid (fun (h : ptrB p = true) => ptr_bounds h)
  have HT2 : Hid (ptrB p = true → holeB p = false → ptrT p = ofL (Lib.join ([decT p.at_, decT p.birth, decT p.size, decT p.sum, decT p.level].map (·.data.toList)) [46])) := Lib.hid (fun h h2 => by
    rw [ptrT, if_pos h, ptrL, if_neg (by simp [h2])]
    simp [Lib.join, decT_data])
  have hTS : (ptrT p).size ≤ 49 := by
    unfold ptrT
    split
    · next h => rw [ofL_size]; exact (ptrL_len h).2
    · exact Nat.zero_le _
  generalize ptrT p = T at *
  obtain ⟨a, b, s, u, l⟩ := p
  unfold Pt.v at *
  dsimp only at *
  have HBa := Lib.hid (below_alloc (Below.refl w.heap.size w) (.cells #[.int .i64 a, .int .i64 b, .int .i64 s, .int .i64 u, .int .i64 l] 23))
  have BX := Lib.hid (box_new w #[.int .i64 a, .int .i64 b, .int .i64 s, .int .i64 u, .int .i64 l] 23)
  go_enter Tryz.func48, Tryz.ntmps48
  go_wp2_with fail
  refine Calls.mono (HO.out _) ?_
  rintro e w1 ⟨rfl, hB⟩
  have HB1 := Lib.hid (below_below HBa.out hB)
  have BX1 := Lib.hid (BX.out.below hB)
  have c1 := BX1.out.cell
  have f1 := BX1.out.froz
  have l1 := BX1.out.lt
  clear hB BX HBa
  cases hk : ptrB ⟨a, b, s, u, l⟩
  · obtain rfl := HT.out hk
    go_wp2_with fail
    go_ret
    exact ⟨rfl, HB1.out⟩
  go_wp2_with fail
  refine Calls.mono (HH.out _) ?_
  rintro e w2 ⟨rfl, hB⟩
  have HB2 := Lib.hid (below_below HB1.out hB)
  have BX2 := Lib.hid (BX1.out.below hB)
  clear hB c1 f1 l1 BX1 HB1
  cases hh : holeB ⟨a, b, s, u, l⟩
  · have hT2 := HT2.out hk hh
    obtain ⟨a0, a1, b0, b1, s0, s1, u0, u1, m0, m1⟩ := HBD.out hk
    clear HT HT1 HT2 HBD HO HH
    have HTT := Lib.hid hT2
    have HTS := Lib.hid hTS
    clear hTS
    have c2 := BX2.out.cell
    have f2 := BX2.out.froz
    have l2 := BX2.out.lt
    have HPA := Lib.hid (parts_any w2 w.heap.size l2)
    clear hT2
    go_wp2_with fail
    refine Calls.mono HPA.out ?_
    rintro e w3 ⟨rfl, hP, hB⟩
    have HB3 := Lib.hid (below_below HB2.out hB)
    have BX3 := Lib.hid (BX2.out.below hB)
    have HP := Lib.hid hP
    have h23 : w.heap.size ≤ w2.heap.size := Nat.le_of_lt l2
    clear hB hP c2 f2 BX2 HPA HB2
    have HZ := Lib.hid (show [a, b, s, u, l].map numT = [decT a, decT b, decT s, decT u, decT l] by simp only [List.map]; rw [numT_dec a0 a1, numT_dec b0 b1, numT_dec s0 s1, numT_dec u0 u1, numT_dec m0 m1])
    clear a0 a1 b0 b1 s0 s1 u0 u1 m0 m1
    have HC : Hid (∀ k, k < 5 → ∃ z, [a, b, s, u, l][k]? = some z ∧ (#[Value.int .i64 a, .int .i64 b, .int .i64 s, .int .i64 u, .int .i64 l] : Array Value)[k]? = some (.int .i64 z) ∧ (#[Value.pointer (some ⟨w.heap.size, 0, none⟩), .pointer (some ⟨w.heap.size, 1, none⟩), .pointer (some ⟨w.heap.size, 2, none⟩), .pointer (some ⟨w.heap.size, 3, none⟩), .pointer (some ⟨w.heap.size, 4, none⟩)] : Array Value)[k]? = some (.pointer (some ⟨w.heap.size, k, none⟩))) := Lib.hid (fun k hk => by
      rcases k with _ | _ | _ | _ | _ | k
      · exact ⟨a, rfl, rfl, rfl⟩
      · exact ⟨b, rfl, rfl, rfl⟩
      · exact ⟨s, rfl, rfl, rfl⟩
      · exact ⟨u, rfl, rfl, rfl⟩
      · exact ⟨l, rfl, rfl, rfl⟩
      · omega)
    have HL5 := Lib.hid (show [a, b, s, u, l].length = 5 from rfl)
    have BX4 := Lib.hid (And.intro BX3.out HP.out)
    clear BX3 HP
    generalize [a, b, s, u, l] = zs at *
    generalize (#[Value.int .i64 a, .int .i64 b, .int .i64 s, .int .i64 u, .int .i64 l] : Array Value) = cs at *
    generalize (#[Value.pointer (some ⟨w.heap.size, 0, none⟩), .pointer (some ⟨w.heap.size, 1, none⟩), .pointer (some ⟨w.heap.size, 2, none⟩), .pointer (some ⟨w.heap.size, 3, none⟩), .pointer (some ⟨w.heap.size, 4, none⟩)] : Array Value) = ps at *
    go_wp2_with fail
    go_loopw [3, 15] (fun v y wr => ∃ k : Nat, k ≤ 5 ∧ y = .int .i64 k ∧ Hid (NumRel w3 zs k v wr)) (fun v y _ => 5 - (intOf y).toNat)
    case atStart => exact ⟨0, Nat.zero_le _, rfl, Lib.hid ⟨Own.nil, Below.refl _ _⟩⟩
    case round =>
      obtain ⟨k, hk5, rfl, hA⟩ := hrel
      obtain ⟨ho, hW⟩ := hA.out
      have HO := Lib.hid ho
      have HB := Lib.hid (below_below HB3.out hW)
      replace hW := Lib.hid hW
      clear ho hA
      by_cases hlt : k < 5
      · obtain ⟨z, hz, hc1, hc2⟩ := HC.out k hlt
        have d1 : wr.cell? ⟨w.heap.size, k, none⟩ = some (.int .i64 z) := ((BX4.out.1.below hW.out).cell k).trans hc1
        have d2 : wr.cell? ⟨w2.heap.size, k, none⟩ = some (.pointer (some ⟨w.heap.size, k, none⟩)) := ((BX4.out.2.below hW.out).cell k).trans hc2
        have k2 : IntKind.i64.wrap ((k : Int) + 1) = (k : Int) + 1 := IntWalk.i64_in _ (by omega)
        have HN := Lib.hid (numPut_any z wr (HTen.out.below HB.out))
        have hlk : ((zs.take k).map numT).length = k := by have := HL5.out; simp; omega
        have K1 := Lib.hid (And.intro (show (((zs.take k).map numT).length + 1) * 16 ≤ 140737488355328 by omega) (show ((zs.take k).map numT).length + 1 ≤ maxLen by unfold maxLen; omega))
        have HZZ := Lib.hid (show (zs.take k).map numT ++ [numT z] = (zs.take (k + 1)).map numT by rw [List.take_add_one, hz]; simp)
        clear hlk hz hc1 hc2
        go_wp2_with fail
        refine Calls.mono HN.out ?_
        rintro e w5 ⟨rfl, hB1⟩
        have HB1 := Lib.hid (below_below HB.out hB1)
        have HO1 := Lib.hid (HO.out.below hB1)
        have HW1 := Lib.hid (below_below hW.out hB1)
        clear hB1
        go_wp2_with (at_builtin; refine wpList_app (ys := ([numT z] : List ByteArray)) elS rfl _ _ rfl (by rfl) (own_allocS HO1.out _) (by rfl) rfl (rd_oneS _ _) oneS K1.out.1 K1.out.2 (below_alloc HW1.out _).size ?_; intro v1 w4 ownv1 grv1 atv1)
        refine ⟨⟨k + 1, by omega, rfl, Lib.hid ⟨by rw [← HZZ.out]; exact ownv1, below_grown (below_alloc HW1.out _) (own_allocS HO1.out _) grv1⟩⟩, by simp [intOf]; omega⟩
      · obtain rfl : k = 5 := by omega
        have ho := HO.out
        rw [List.take_of_length_le (by have := HL5.out; omega), HZ.out] at ho
        have HX : Hid ((Lib.join (([decT a, decT b, decT s, decT u, decT l] : List ByteArray).map (·.data.toList)) [46]).length ≤ 1000 ∧ [decT a, decT b, decT s, decT u, decT l].length = 5) := Lib.hid ⟨by have := HTS.out; rw [HTT.out, ofL_size] at this; omega, rfl⟩
        generalize [decT a, decT b, decT s, decT u, decT l] = xs at *
        obtain ⟨A, cap, rfl, q1, q2, q3, hr⟩ := ho.form
        have HJ := Lib.hid (joinDot_any wr A cap xs hr (by have := HX.out.2; omega) q1 HX.out.1 (by have := HX.out.2; omega))
        rw [← HTT.out] at HJ
        clear ho HO q3 hr HX HTT
        generalize xs.length = m at *
        go_wp2_with fail
        refine Calls.mono HJ.out ?_
        rintro e w5 ⟨rfl, hB1⟩
        have HB1 := Lib.hid (below_below HB.out hB1)
        clear hB1
        go_wp2_with fail
        go_ret
        exact ⟨rfl, HB1.out⟩
  · obtain rfl := HT1.out hk hh
    go_wp2_with fail
    go_ret
    exact ⟨rfl, HB2.out⟩
end Go.Proofs.YthedmiippfpbnaaGreatDoor
