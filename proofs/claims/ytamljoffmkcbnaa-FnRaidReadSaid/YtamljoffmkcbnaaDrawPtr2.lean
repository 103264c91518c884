/- Pointers drawn: l91Ptr. -/
import Derived.Test.YtamljoffmkcbnaaDrawPtr
import Derived.Test.YtamljoffmkcbnaaDrawText
namespace Go.Proofs.Ytamljoffmkcbnaa
open Go.RowKit Go.Sort
set_option maxRecDepth 100000
set_option linter.unusedVariables false
set_option linter.unusedSimpArgs false

/-- A pointer was drawn. -/
def PtrD (d : Nat) (w : World) (rb p : Nat) (e : Ending) (w' : World) : Prop := ∃ (q : Pt) (k : Nat), e = .returned q.v ∧ Rs w' rb (p + k) ∧ k ≤ d ∧ Kp [rb] w w'

theorem ptr_end {w wk : World} {rb p k : Nat} (q : Pt) {v0 v1 v2 v3 v4 : Value} (K : Kp [rb] w wk) (R : Rs wk rb (p + k)) (hl : rb < w.heap.size) (hk : k ≤ 40) :
    PtrD 40 w rb p (.returned q.v) (((((wk.setCell ⟨w.heap.size, 0, none⟩ v0).setCell ⟨w.heap.size, 1, none⟩ v1).setCell ⟨w.heap.size, 2, none⟩ v2).setCell ⟨w.heap.size, 3, none⟩ v3).setCell ⟨w.heap.size, 4, none⟩ v4) :=
  ⟨q, k, rfl, R.kp ((((((Kp.refl [w.heap.size] wk).setCell (.inl (by simp)) v0).setCell (.inl (by simp)) v1).setCell (.inl (by simp)) v2).setCell (.inl (by simp)) v3).setCell (.inl (by simp)) v4) (by simp; omega), hk,
    ((((K.setCell (.inr (Nat.le_refl _)) v0).setCell (.inr (Nat.le_refl _)) v1).setCell (.inr (Nat.le_refl _)) v2).setCell (.inr (Nat.le_refl _)) v3).setCell (.inr (Nat.le_refl _)) v4⟩

set_option maxHeartbeats 4000000 in
theorem l91Ptr_any (w : World) (rb p : Nat) (h : Rs w rb p) (hp : p ≤ 900000) :
    Calls Try.prog 71 #[.pointer (some ⟨rb, 0, none⟩)] w (PtrD 40 w rb p) := by
  have hr := h
  clear h
  have hl := hr.lt
  have RC0 := Lib.hid (box_new w #[.int .i64 0, .int .i64 0, .int .i64 0, .int .i64 0, .int .i64 0] 29)
  have K0 := Lib.hid ((Kp.refl [rb] w).alloc (.cells #[.int .i64 0, .int .i64 0, .int .i64 0, .int .i64 0, .int .i64 0] 29))
  go_enter Try.func71, Try.ntmps71
  go_wp2_with fail
  refine Calls.mono (pick_nat _ _ _ _ (Rs.alloc hr _) (by omega) (by omega) (by omega)) ?_
  rintro e w1 ⟨k, rfl, hk0, hr1, hk1⟩
  have hl1 := hr1.lt
  have hne : ¬ w.heap.size = rb := by omega
  have RC1 := Lib.hid (RC0.out.kp hk1 (by simp; omega))
  have K1 := Lib.hid (K0.out.trans hk1)
  have rc1 := RC1.out.cell
  have rf1 := RC1.out.froz
  have rl1 := RC1.out.lt
  by_cases hz : (k : Int) = 0
  · have hz' : ((k : Int) == 0) = true := by simpa using hz
    clear hk0 hk1 RC0 K0
    go_wp2_with fail
    refine bodyPost_ret (v := .agg #[.int .i64 0, .int .i64 0, .int .i64 0, .int .i64 0, .int .i64 0]) (by simp [results, Try.results71, go_sem, rc1, rl1]) rfl ?_
    exact ptr_end ⟨0, 0, 0, 0, 0⟩ K1.out hr1 hl (by omega)
  · have hz' : ((k : Int) == 0) = false := by simpa using hz
    clear hk0 hk1 RC0 K0
    go_wp2_with fail
    clear rc1 rf1 rl1
    refine Calls.mono (pick_nat _ _ _ _ hr1 (by omega) (by omega) (by omega)) ?_
    rintro e w2 ⟨k2, rfl, hk20, hr2, hk2⟩
    have K2 := Lib.hid (K1.out.trans hk2)
    have RC2 := Lib.hid (RC1.out.kp hk2 (by simp; omega))
    have hk2' : (k2 : Int) < 12 := by simp at hk20; omega
    clear hk20 hk2
    go_wp2_with fail
    refine Calls.mono (pick_nat _ _ _ _ hr2 (by omega) (by omega) (by omega)) ?_
    rintro e w3 ⟨k3, rfl, hk30, hr3, hk3⟩
    have K3 := Lib.hid (K2.out.trans hk3)
    have RC3 := Lib.hid (RC2.out.kp hk3 (by simp; omega))
    have hk3' : (k3 : Int) < 9 := by simp at hk30; omega
    clear hk30 hk3
    go_wp2_with fail
    refine Calls.mono (pick_nat _ _ _ _ hr3 (by omega) (by omega) (by omega)) ?_
    rintro e w4 ⟨k4, rfl, hk40, hr4, hk4⟩
    have K4 := Lib.hid (K3.out.trans hk4)
    have RC4 := Lib.hid (RC3.out.kp hk4 (by simp; omega))
    clear hk40 hk4
    go_wp2_with fail
    refine Calls.mono (l91Text_any _ rb _ 9 hr4 (by omega) (by omega)) ?_
    rintro e w5 ⟨s, q5, rfl, hs5, hr5, hq5, hk5⟩
    have K5 := Lib.hid (K4.out.trans hk5)
    have RC5 := Lib.hid (RC4.out.kp hk5 (by simp; omega))
    have hts : ((⟨#[116]⟩ : ByteArray) ++ s).size ≤ 9223372036854775807 := by
      rw [ByteArray.size_append]
      show 1 + s.size ≤ _
      omega
    clear hk5
    go_wp2_with fail
    refine Calls.mono (specPtrOf_any _ _ _ _ _ hts) ?_
    rintro e w6 ⟨⟨p0, p1, p2, p3, p4⟩, pbo, he, hB⟩
    unfold Pt.v at he
    dsimp only at he
    subst he
    have hK := (Kp.of_below hB).all [rb]
    have K6 := Lib.hid ((K5.out.trans hK).alloc (.cells #[.int .i64 p0, .int .i64 p1, .int .i64 p2, .int .i64 p3, .int .i64 p4] 29))
    have RC6 := Lib.hid ((RC5.out.kp hK (by simp; omega)).alloc (.cells #[.int .i64 p0, .int .i64 p1, .int .i64 p2, .int .i64 p3, .int .i64 p4] 29))
    have PB6 := Lib.hid (box_new w6 #[.int .i64 p0, .int .i64 p1, .int .i64 p2, .int .i64 p3, .int .i64 p4] 29)
    have hr6 := Rs.alloc (hr5.below hB) (.cells #[.int .i64 p0, .int .i64 p1, .int .i64 p2, .int .i64 p3, .int .i64 p4] 29)
    have hl6 := hr6.lt
    have hw6 := RC6.out.lt
    simp only [World.size_alloc] at hl6 hw6
    have hwb : rb < w6.heap.size := (hr5.below hB).lt
    have hww : w.heap.size < w6.heap.size := (RC5.out.kp hK (by simp; omega)).lt
    clear hB hK hts hr5 hr4 hr3 hr2 hr1 K5 K4 K3 K2 K1 RC5 RC4 RC3 RC2 RC1
    go_wp2_with fail
    refine Calls.mono (pick_nat _ _ _ _ hr6 (by omega) (by omega) (by omega)) ?_
    rintro e w7 ⟨m, rfl, hm0, hr7, hm7⟩
    have K7 := Lib.hid (K6.out.trans hm7)
    have RC7 := Lib.hid (RC6.out.kp hm7 (by simp; omega))
    have PB7 := Lib.hid (PB6.out.kp hm7 (by simp; omega))
    have hm24 : (m : Int) < 24 := by simp at hm0; omega
    have rc7 := RC7.out.cell
    have rf7 := RC7.out.froz
    have rl7 := RC7.out.lt
    have pc7 := PB7.out.cell
    have pf7 := PB7.out.froz
    have pl7 := PB7.out.lt
    have hnw : ¬ w6.heap.size = w.heap.size := by omega
    have hnw2 : ¬ w.heap.size = w6.heap.size := by omega
    have hnb : ¬ w6.heap.size = rb := by omega
    clear hm0 hm7 K6 RC6 PB6 hr6
    by_cases m0 : (m : Int) = 0
    · have e0 : ((m : Int) == 0) = true := by simpa using m0
      clear m0
      go_wp2_with fail
      refine Calls.mono (l91Row_any _ rb _ hr7 (by omega)) ?_
      rintro e w8 ⟨z, q8, rfl, hr8, hq8, hk8⟩
      have K8 := Lib.hid (K7.out.trans hk8)
      have RC8 := Lib.hid (RC7.out.kp hk8 (by simp; omega))
      have PB8 := Lib.hid (PB7.out.kp hk8 (by simp; omega))
      clear hk8 K7 RC7 PB7
      have rc8 := RC8.out.cell
      have rf8 := RC8.out.froz
      have rl8 := RC8.out.lt
      have pc8 := PB8.out.cell
      have pf8 := PB8.out.froz
      have pl8 := PB8.out.lt
      clear rc7 rf7 pc7 pf7
      go_wp2_with fail
      refine bodyPost_ret (v := .agg #[.int .i64 z, .int .i64 p1, .int .i64 p2, .int .i64 p3, .int .i64 p4]) (by simp [results, Try.results71, go_sem, rc8, rl8, hnw, hnw2]) rfl ?_
      exact ptr_end ⟨z, p1, p2, p3, p4⟩ (K8.out.setCell (p := ⟨w6.heap.size, 0, none⟩) (.inr (by dsimp only; omega)) (.int .i64 z)) (k := 5 + q5 + q8) (by rw [show p + (5 + q5 + q8) = p + 1 + 1 + 1 + 1 + q5 + 1 + q8 by omega]; exact hr8.kp ((Kp.refl [w6.heap.size] w8).setCell (p := ⟨w6.heap.size, 0, none⟩) (.inl (by simp)) (.int .i64 z)) (by simp; omega)) hl (by omega)
    have e0 : ((m : Int) == 0) = false := by simpa using m0
    clear m0
    by_cases m1 : (m : Int) = 1
    · have e1 : ((m : Int) == 1) = true := by simpa using m1
      clear m1
      go_wp2_with fail
      refine Calls.mono (pick_nat _ _ _ _ (Rs.alloc hr7 _) (by omega) (by omega) (by omega)) ?_
      rintro e w8 ⟨j, rfl, hj0, hr8, hk8⟩
      have hru := hk8.rule
      have hsz := hk8.size
      simp only [World.size_alloc, Nat.add_one_le_iff] at hsz
      have K8 := Lib.hid ((K7.out.alloc _).trans hk8)
      have RC8 := Lib.hid ((RC7.out.alloc _).kp hk8 (by simp; omega))
      have PB8 := Lib.hid ((PB7.out.alloc _).kp hk8 (by simp; omega))
      obtain ⟨z, hzz⟩ := lit_int [0, -1, 900, 901] j hj0
      simp only [List.map] at hzz
      have hj1 : (j : Int) < 4 := by simp at hj0; omega
      have n7 : ¬ w7.heap.size = w.heap.size := by omega
      have n8 : ¬ w7.heap.size = w6.heap.size := by omega
      have n9 : ¬ w7.heap.size = rb := by omega
      clear hj0 K7 RC7 PB7
      have rc8 := RC8.out.cell
      have rf8 := RC8.out.froz
      have rl8 := RC8.out.lt
      have pc8 := PB8.out.cell
      have pf8 := PB8.out.froz
      have pl8 := PB8.out.lt
      go_wp2_with fail
      refine bodyPost_ret (v := .agg #[.int .i64 p0, .int .i64 z, .int .i64 p2, .int .i64 p3, .int .i64 p4]) (by simp [results, Try.results71, go_sem, rc8, rl8, hnw, hnw2]) rfl ?_
      exact ptr_end ⟨p0, z, p2, p3, p4⟩ (K8.out.setCell (p := ⟨w6.heap.size, 1, none⟩) (.inr (by dsimp only; omega)) (.int .i64 z)) (k := 5 + q5 + 1) (by rw [show p + (5 + q5 + 1) = p + 1 + 1 + 1 + 1 + q5 + 1 + 1 by omega]; exact hr8.kp ((Kp.refl [w6.heap.size] w8).setCell (p := ⟨w6.heap.size, 1, none⟩) (.inl (by simp)) (.int .i64 z)) (by simp; omega)) hl (by omega)
    have e1 : ((m : Int) == 1) = false := by simpa using m1
    clear m1
    by_cases m2 : (m : Int) = 2
    · have e2 : ((m : Int) == 2) = true := by simpa using m2
      clear m2
      go_wp2_with fail
      refine Calls.mono (pick_nat _ _ _ _ (Rs.alloc hr7 _) (by omega) (by omega) (by omega)) ?_
      rintro e w8 ⟨j, rfl, hj0, hr8, hk8⟩
      have hru := hk8.rule
      have hsz := hk8.size
      simp only [World.size_alloc, Nat.add_one_le_iff] at hsz
      have K8 := Lib.hid ((K7.out.alloc _).trans hk8)
      have RC8 := Lib.hid ((RC7.out.alloc _).kp hk8 (by simp; omega))
      have PB8 := Lib.hid ((PB7.out.alloc _).kp hk8 (by simp; omega))
      obtain ⟨z, hzz⟩ := lit_int [0, -1, 128, 129] j hj0
      simp only [List.map] at hzz
      have hj1 : (j : Int) < 4 := by simp at hj0; omega
      have n7 : ¬ w7.heap.size = w.heap.size := by omega
      have n8 : ¬ w7.heap.size = w6.heap.size := by omega
      have n9 : ¬ w7.heap.size = rb := by omega
      clear hj0 K7 RC7 PB7
      have rc8 := RC8.out.cell
      have rf8 := RC8.out.froz
      have rl8 := RC8.out.lt
      have pc8 := PB8.out.cell
      have pf8 := PB8.out.froz
      have pl8 := PB8.out.lt
      go_wp2_with fail
      refine bodyPost_ret (v := .agg #[.int .i64 p0, .int .i64 p1, .int .i64 z, .int .i64 p3, .int .i64 p4]) (by simp [results, Try.results71, go_sem, rc8, rl8, hnw, hnw2]) rfl ?_
      exact ptr_end ⟨p0, p1, z, p3, p4⟩ (K8.out.setCell (p := ⟨w6.heap.size, 2, none⟩) (.inr (by dsimp only; omega)) (.int .i64 z)) (k := 5 + q5 + 1) (by rw [show p + (5 + q5 + 1) = p + 1 + 1 + 1 + 1 + q5 + 1 + 1 by omega]; exact hr8.kp ((Kp.refl [w6.heap.size] w8).setCell (p := ⟨w6.heap.size, 2, none⟩) (.inl (by simp)) (.int .i64 z)) (by simp; omega)) hl (by omega)
    have e2 : ((m : Int) == 2) = false := by simpa using m2
    clear m2
    by_cases m3 : (m : Int) = 3
    · have e3 : ((m : Int) == 3) = true := by simpa using m3
      clear m3
      go_wp2_with fail
      refine Calls.mono (pick_nat _ _ _ _ (Rs.alloc hr7 _) (by omega) (by omega) (by omega)) ?_
      rintro e w8 ⟨j, rfl, hj0, hr8, hk8⟩
      have hru := hk8.rule
      have hsz := hk8.size
      simp only [World.size_alloc, Nat.add_one_le_iff] at hsz
      have K8 := Lib.hid ((K7.out.alloc _).trans hk8)
      have RC8 := Lib.hid ((RC7.out.alloc _).kp hk8 (by simp; omega))
      have PB8 := Lib.hid ((PB7.out.alloc _).kp hk8 (by simp; omega))
      obtain ⟨z, hzz⟩ := lit_int [-1, 99460728, 99460729, 0] j hj0
      simp only [List.map] at hzz
      have hj1 : (j : Int) < 4 := by simp at hj0; omega
      have n7 : ¬ w7.heap.size = w.heap.size := by omega
      have n8 : ¬ w7.heap.size = w6.heap.size := by omega
      have n9 : ¬ w7.heap.size = rb := by omega
      clear hj0 K7 RC7 PB7
      have rc8 := RC8.out.cell
      have rf8 := RC8.out.froz
      have rl8 := RC8.out.lt
      have pc8 := PB8.out.cell
      have pf8 := PB8.out.froz
      have pl8 := PB8.out.lt
      go_wp2_with fail
      refine bodyPost_ret (v := .agg #[.int .i64 p0, .int .i64 p1, .int .i64 p2, .int .i64 z, .int .i64 p4]) (by simp [results, Try.results71, go_sem, rc8, rl8, hnw, hnw2]) rfl ?_
      exact ptr_end ⟨p0, p1, p2, z, p4⟩ (K8.out.setCell (p := ⟨w6.heap.size, 3, none⟩) (.inr (by dsimp only; omega)) (.int .i64 z)) (k := 5 + q5 + 1) (by rw [show p + (5 + q5 + 1) = p + 1 + 1 + 1 + 1 + q5 + 1 + 1 by omega]; exact hr8.kp ((Kp.refl [w6.heap.size] w8).setCell (p := ⟨w6.heap.size, 3, none⟩) (.inl (by simp)) (.int .i64 z)) (by simp; omega)) hl (by omega)
    have e3 : ((m : Int) == 3) = false := by simpa using m3
    clear m3
    by_cases m4 : (m : Int) = 4
    · have e4 : ((m : Int) == 4) = true := by simpa using m4
      clear m4
      go_wp2_with fail
      refine Calls.mono (pick_nat _ _ _ _ (Rs.alloc hr7 _) (by omega) (by omega) (by omega)) ?_
      rintro e w8 ⟨j, rfl, hj0, hr8, hk8⟩
      have hru := hk8.rule
      have hsz := hk8.size
      simp only [World.size_alloc, Nat.add_one_le_iff] at hsz
      have K8 := Lib.hid ((K7.out.alloc _).trans hk8)
      have RC8 := Lib.hid ((RC7.out.alloc _).kp hk8 (by simp; omega))
      have PB8 := Lib.hid ((PB7.out.alloc _).kp hk8 (by simp; omega))
      obtain ⟨z, hzz⟩ := lit_int [-1, 3, 2] j hj0
      simp only [List.map] at hzz
      have hj1 : (j : Int) < 3 := by simp at hj0; omega
      have n7 : ¬ w7.heap.size = w.heap.size := by omega
      have n8 : ¬ w7.heap.size = w6.heap.size := by omega
      have n9 : ¬ w7.heap.size = rb := by omega
      clear hj0 K7 RC7 PB7
      have rc8 := RC8.out.cell
      have rf8 := RC8.out.froz
      have rl8 := RC8.out.lt
      have pc8 := PB8.out.cell
      have pf8 := PB8.out.froz
      have pl8 := PB8.out.lt
      go_wp2_with fail
      refine bodyPost_ret (v := .agg #[.int .i64 p0, .int .i64 p1, .int .i64 p2, .int .i64 p3, .int .i64 z]) (by simp [results, Try.results71, go_sem, rc8, rl8, hnw, hnw2]) rfl ?_
      exact ptr_end ⟨p0, p1, p2, p3, z⟩ (K8.out.setCell (p := ⟨w6.heap.size, 4, none⟩) (.inr (by dsimp only; omega)) (.int .i64 z)) (k := 5 + q5 + 1) (by rw [show p + (5 + q5 + 1) = p + 1 + 1 + 1 + 1 + q5 + 1 + 1 by omega]; exact hr8.kp ((Kp.refl [w6.heap.size] w8).setCell (p := ⟨w6.heap.size, 4, none⟩) (.inl (by simp)) (.int .i64 z)) (by simp; omega)) hl (by omega)
    have e4 : ((m : Int) == 4) = false := by simpa using m4
    clear m4
    go_wp2_with fail
    refine bodyPost_ret (v := .agg #[.int .i64 p0, .int .i64 p1, .int .i64 p2, .int .i64 p3, .int .i64 p4]) (by simp [results, Try.results71, go_sem, rc7, rl7]) rfl ?_
    exact ptr_end ⟨p0, p1, p2, p3, p4⟩ K7.out (k := 5 + q5) (by rw [show p + (5 + q5) = p + 1 + 1 + 1 + 1 + q5 + 1 by omega]; exact hr7) hl (by omega)

end Go.Proofs.Ytamljoffmkcbnaa
