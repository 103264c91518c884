/- Whether an operation is valid: the reference's. -/
import Derived.Test.YtjalboplilolkaaDoorOpOk
namespace Go.Proofs.YtjalboplilolkaaDoor
open Go.RowKit
set_option linter.unusedVariables false
set_option linter.unusedSimpArgs false

set_option maxHeartbeats 4000000 in
theorem specOpOk_any (w : World) (o : OpD) (hp : o.path.size ≤ 1048576) (ht : o.dst.size ≤ 1048576) (hx : o.text.size ≤ 1048576) :
    Calls Tryd.prog 40 #[o.v] w fun e w' => e = .returned (.bool (opOkB o)) ∧ Below w.heap.size w w' := by
  obtain ⟨kd, pa, dst, at_, tx⟩ := o
  dsimp only at hp ht hx
  have HP := Lib.hid (fun w => specPathOk_any w pa hp)
  have HT := Lib.hid (fun w => specPathOk_any w dst ht)
  have HW := Lib.hid (fun w => l6In_any kd 1 7 w)
  have HA := Lib.hid (fun w => l6In_any at_ 0 192 w)
  simp only [OpD.v]
  rcases kinds kd with ⟨b6, b7, b3, b4, hin⟩ | ⟨b6, b7, b3, b4, hin⟩ | ⟨b6, b7, b3, b4, hin⟩ | ⟨b6, b7, b3, b4, hin⟩ | ⟨b6, b7, b3, b4⟩
  · have n3 : (kd != 3) = true := by simp [bne, b3]
    rw [hin] at HW
    cases hpp : pathB pa
    · rw [hpp] at HP
      have E := Lib.hid (show opOkB ⟨kd, pa, dst, at_, tx⟩ = false by simp [opOkB, hpp])
      go_enter Tryd.func40, Tryd.ntmps40
      go_wp2_with (go_at_call 58; refine (HW.out _).mono ?_; rintro e w' ⟨rfl, rfl⟩)
      refine Calls.mono (HP.out _) ?_
      rintro e w1 ⟨rfl, hB1⟩
      have HB1 := Lib.hid (below_below (below_alloc (Below.refl w.heap.size w) _) hB1)
      obtain ⟨c1, f1⟩ := bcell hB1
      have hz1 : w.heap.size < w1.heap.size := (by have := hB1.size; simp at this; omega)
      clear hB1
      go_wp2_with fail
      go_ret
      exact ⟨ret_bool E.out.symm, HB1.out⟩
    · rw [hpp] at HP
      cases htt : pathB dst
      · rw [htt] at HT
        have E := Lib.hid (show opOkB ⟨kd, pa, dst, at_, tx⟩ = false by simp [opOkB, htt, b6, b7])
        go_enter Tryd.func40, Tryd.ntmps40
        go_wp2_with (go_at_call 58; refine (HW.out _).mono ?_; rintro e w' ⟨rfl, rfl⟩)
        refine Calls.mono (HP.out _) ?_
        rintro e w1 ⟨rfl, hB1⟩
        have HB1 := Lib.hid (below_below (below_alloc (Below.refl w.heap.size w) _) hB1)
        obtain ⟨c1, f1⟩ := bcell hB1
        have hz1 : w.heap.size < w1.heap.size := (by have := hB1.size; simp at this; omega)
        clear hB1
        go_wp2_with fail
        refine Calls.mono (HT.out _) ?_
        rintro e w2 ⟨rfl, hB2⟩
        have HB2 := Lib.hid (below_below HB1.out hB2)
        obtain ⟨c2, f2⟩ := bcell hB2
        clear hB2
        go_wp2_with fail
        go_ret
        exact ⟨ret_bool E.out.symm, HB2.out⟩
      · have hte := pathB_full htt
        rw [htt] at HT
        cases hxe : tx.toList.isEmpty
        · have E := Lib.hid (show opOkB ⟨kd, pa, dst, at_, tx⟩ = false by simp [opOkB, hxe, b3])
          go_enter Tryd.func40, Tryd.ntmps40
          go_wp2_with (go_at_call 58; refine (HW.out _).mono ?_; rintro e w' ⟨rfl, rfl⟩)
          refine Calls.mono (HP.out _) ?_
          rintro e w1 ⟨rfl, hB1⟩
          have HB1 := Lib.hid (below_below (below_alloc (Below.refl w.heap.size w) _) hB1)
          obtain ⟨c1, f1⟩ := bcell hB1
          have hz1 : w.heap.size < w1.heap.size := (by have := hB1.size; simp at this; omega)
          clear hB1
          go_wp2_with fail
          refine Calls.mono (HT.out _) ?_
          rintro e w2 ⟨rfl, hB2⟩
          have HB2 := Lib.hid (below_below HB1.out hB2)
          obtain ⟨c2, f2⟩ := bcell hB2
          clear hB2
          go_wp2_with fail
          go_ret
          exact ⟨ret_bool E.out.symm, HB2.out⟩
        · have hx0 := full_size hxe
          have q24 : ¬ (24 : Int) < (tx.size : Int) := by omega
          by_cases ha : at_ = 0
          · subst ha
            have E := Lib.hid (show opOkB ⟨kd, pa, dst, 0, tx⟩ = true by simp [opOkB, hin, hpp, b6, b7, b3, b4, htt, hxe])
            go_enter Tryd.func40, Tryd.ntmps40
            go_wp2_with (go_at_call 58; refine (HW.out _).mono ?_; rintro e w' ⟨rfl, rfl⟩)
            refine Calls.mono (HP.out _) ?_
            rintro e w1 ⟨rfl, hB1⟩
            have HB1 := Lib.hid (below_below (below_alloc (Below.refl w.heap.size w) _) hB1)
            obtain ⟨c1, f1⟩ := bcell hB1
            have hz1 : w.heap.size < w1.heap.size := (by have := hB1.size; simp at this; omega)
            clear hB1
            go_wp2_with fail
            refine Calls.mono (HT.out _) ?_
            rintro e w2 ⟨rfl, hB2⟩
            have HB2 := Lib.hid (below_below HB1.out hB2)
            obtain ⟨c2, f2⟩ := bcell hB2
            clear hB2
            go_wp2_with fail
            go_ret
            exact ⟨ret_bool E.out.symm, HB2.out⟩
          · have ha0 : (at_ == 0) = false := by simpa using ha
            have E := Lib.hid (show opOkB ⟨kd, pa, dst, at_, tx⟩ = false by simp [opOkB, hin, hpp, b6, b7, b3, b4, htt, hxe, ha0])
            go_enter Tryd.func40, Tryd.ntmps40
            go_wp2_with (go_at_call 58; refine (HW.out _).mono ?_; rintro e w' ⟨rfl, rfl⟩)
            refine Calls.mono (HP.out _) ?_
            rintro e w1 ⟨rfl, hB1⟩
            have HB1 := Lib.hid (below_below (below_alloc (Below.refl w.heap.size w) _) hB1)
            obtain ⟨c1, f1⟩ := bcell hB1
            have hz1 : w.heap.size < w1.heap.size := (by have := hB1.size; simp at this; omega)
            clear hB1
            go_wp2_with fail
            refine Calls.mono (HT.out _) ?_
            rintro e w2 ⟨rfl, hB2⟩
            have HB2 := Lib.hid (below_below HB1.out hB2)
            obtain ⟨c2, f2⟩ := bcell hB2
            clear hB2
            go_wp2_with fail
            go_ret
            exact ⟨ret_bool E.out.symm, HB2.out⟩
  · have n3 : (kd != 3) = true := by simp [bne, b3]
    rw [hin] at HW
    cases hpp : pathB pa
    · rw [hpp] at HP
      have E := Lib.hid (show opOkB ⟨kd, pa, dst, at_, tx⟩ = false by simp [opOkB, hpp])
      go_enter Tryd.func40, Tryd.ntmps40
      go_wp2_with (go_at_call 58; refine (HW.out _).mono ?_; rintro e w' ⟨rfl, rfl⟩)
      refine Calls.mono (HP.out _) ?_
      rintro e w1 ⟨rfl, hB1⟩
      have HB1 := Lib.hid (below_below (below_alloc (Below.refl w.heap.size w) _) hB1)
      obtain ⟨c1, f1⟩ := bcell hB1
      have hz1 : w.heap.size < w1.heap.size := (by have := hB1.size; simp at this; omega)
      clear hB1
      go_wp2_with fail
      go_ret
      exact ⟨ret_bool E.out.symm, HB1.out⟩
    · rw [hpp] at HP
      cases htt : pathB dst
      · rw [htt] at HT
        have E := Lib.hid (show opOkB ⟨kd, pa, dst, at_, tx⟩ = false by simp [opOkB, htt, b6, b7])
        go_enter Tryd.func40, Tryd.ntmps40
        go_wp2_with (go_at_call 58; refine (HW.out _).mono ?_; rintro e w' ⟨rfl, rfl⟩)
        refine Calls.mono (HP.out _) ?_
        rintro e w1 ⟨rfl, hB1⟩
        have HB1 := Lib.hid (below_below (below_alloc (Below.refl w.heap.size w) _) hB1)
        obtain ⟨c1, f1⟩ := bcell hB1
        have hz1 : w.heap.size < w1.heap.size := (by have := hB1.size; simp at this; omega)
        clear hB1
        go_wp2_with fail
        refine Calls.mono (HT.out _) ?_
        rintro e w2 ⟨rfl, hB2⟩
        have HB2 := Lib.hid (below_below HB1.out hB2)
        obtain ⟨c2, f2⟩ := bcell hB2
        clear hB2
        go_wp2_with fail
        go_ret
        exact ⟨ret_bool E.out.symm, HB2.out⟩
      · have hte := pathB_full htt
        rw [htt] at HT
        cases hxe : tx.toList.isEmpty
        · have E := Lib.hid (show opOkB ⟨kd, pa, dst, at_, tx⟩ = false by simp [opOkB, hxe, b3])
          go_enter Tryd.func40, Tryd.ntmps40
          go_wp2_with (go_at_call 58; refine (HW.out _).mono ?_; rintro e w' ⟨rfl, rfl⟩)
          refine Calls.mono (HP.out _) ?_
          rintro e w1 ⟨rfl, hB1⟩
          have HB1 := Lib.hid (below_below (below_alloc (Below.refl w.heap.size w) _) hB1)
          obtain ⟨c1, f1⟩ := bcell hB1
          have hz1 : w.heap.size < w1.heap.size := (by have := hB1.size; simp at this; omega)
          clear hB1
          go_wp2_with fail
          refine Calls.mono (HT.out _) ?_
          rintro e w2 ⟨rfl, hB2⟩
          have HB2 := Lib.hid (below_below HB1.out hB2)
          obtain ⟨c2, f2⟩ := bcell hB2
          clear hB2
          go_wp2_with fail
          go_ret
          exact ⟨ret_bool E.out.symm, HB2.out⟩
        · have hx0 := full_size hxe
          have q24 : ¬ (24 : Int) < (tx.size : Int) := by omega
          by_cases ha : at_ = 0
          · subst ha
            have E := Lib.hid (show opOkB ⟨kd, pa, dst, 0, tx⟩ = true by simp [opOkB, hin, hpp, b6, b7, b3, b4, htt, hxe])
            go_enter Tryd.func40, Tryd.ntmps40
            go_wp2_with (go_at_call 58; refine (HW.out _).mono ?_; rintro e w' ⟨rfl, rfl⟩)
            refine Calls.mono (HP.out _) ?_
            rintro e w1 ⟨rfl, hB1⟩
            have HB1 := Lib.hid (below_below (below_alloc (Below.refl w.heap.size w) _) hB1)
            obtain ⟨c1, f1⟩ := bcell hB1
            have hz1 : w.heap.size < w1.heap.size := (by have := hB1.size; simp at this; omega)
            clear hB1
            go_wp2_with fail
            refine Calls.mono (HT.out _) ?_
            rintro e w2 ⟨rfl, hB2⟩
            have HB2 := Lib.hid (below_below HB1.out hB2)
            obtain ⟨c2, f2⟩ := bcell hB2
            clear hB2
            go_wp2_with fail
            go_ret
            exact ⟨ret_bool E.out.symm, HB2.out⟩
          · have ha0 : (at_ == 0) = false := by simpa using ha
            have E := Lib.hid (show opOkB ⟨kd, pa, dst, at_, tx⟩ = false by simp [opOkB, hin, hpp, b6, b7, b3, b4, htt, hxe, ha0])
            go_enter Tryd.func40, Tryd.ntmps40
            go_wp2_with (go_at_call 58; refine (HW.out _).mono ?_; rintro e w' ⟨rfl, rfl⟩)
            refine Calls.mono (HP.out _) ?_
            rintro e w1 ⟨rfl, hB1⟩
            have HB1 := Lib.hid (below_below (below_alloc (Below.refl w.heap.size w) _) hB1)
            obtain ⟨c1, f1⟩ := bcell hB1
            have hz1 : w.heap.size < w1.heap.size := (by have := hB1.size; simp at this; omega)
            clear hB1
            go_wp2_with fail
            refine Calls.mono (HT.out _) ?_
            rintro e w2 ⟨rfl, hB2⟩
            have HB2 := Lib.hid (below_below HB1.out hB2)
            obtain ⟨c2, f2⟩ := bcell hB2
            clear hB2
            go_wp2_with fail
            go_ret
            exact ⟨ret_bool E.out.symm, HB2.out⟩
  · have n3 : (kd != 3) = false := by simp [bne, b3]
    rw [hin] at HW
    cases hpp : pathB pa
    · rw [hpp] at HP
      have E := Lib.hid (show opOkB ⟨kd, pa, dst, at_, tx⟩ = false by simp [opOkB, hpp])
      go_enter Tryd.func40, Tryd.ntmps40
      go_wp2_with (go_at_call 58; refine (HW.out _).mono ?_; rintro e w' ⟨rfl, rfl⟩)
      refine Calls.mono (HP.out _) ?_
      rintro e w1 ⟨rfl, hB1⟩
      have HB1 := Lib.hid (below_below (below_alloc (Below.refl w.heap.size w) _) hB1)
      obtain ⟨c1, f1⟩ := bcell hB1
      have hz1 : w.heap.size < w1.heap.size := (by have := hB1.size; simp at this; omega)
      clear hB1
      go_wp2_with fail
      go_ret
      exact ⟨ret_bool E.out.symm, HB1.out⟩
    · rw [hpp] at HP
      cases hte : dst.toList.isEmpty
      · have E := Lib.hid (show opOkB ⟨kd, pa, dst, at_, tx⟩ = false by simp [opOkB, hte, b6, b7])
        go_enter Tryd.func40, Tryd.ntmps40
        go_wp2_with (go_at_call 58; refine (HW.out _).mono ?_; rintro e w' ⟨rfl, rfl⟩)
        refine Calls.mono (HP.out _) ?_
        rintro e w1 ⟨rfl, hB1⟩
        have HB1 := Lib.hid (below_below (below_alloc (Below.refl w.heap.size w) _) hB1)
        obtain ⟨c1, f1⟩ := bcell hB1
        have hz1 : w.heap.size < w1.heap.size := (by have := hB1.size; simp at this; omega)
        clear hB1
        go_wp2_with fail
        go_ret
        exact ⟨ret_bool E.out.symm, HB1.out⟩
      · skip
        by_cases hx24 : tx.size ≤ 24
        · have q24 : ¬ (24 : Int) < (tx.size : Int) := by omega
          by_cases ha : at_ = 0
          · subst ha
            have E := Lib.hid (show opOkB ⟨kd, pa, dst, 0, tx⟩ = true by simp [opOkB, hin, hpp, b6, b7, b3, b4, hte, hx24])
            go_enter Tryd.func40, Tryd.ntmps40
            go_wp2_with (go_at_call 58; refine (HW.out _).mono ?_; rintro e w' ⟨rfl, rfl⟩)
            refine Calls.mono (HP.out _) ?_
            rintro e w1 ⟨rfl, hB1⟩
            have HB1 := Lib.hid (below_below (below_alloc (Below.refl w.heap.size w) _) hB1)
            obtain ⟨c1, f1⟩ := bcell hB1
            have hz1 : w.heap.size < w1.heap.size := (by have := hB1.size; simp at this; omega)
            clear hB1
            go_wp2_with fail
            go_ret
            exact ⟨ret_bool E.out.symm, HB1.out⟩
          · have ha0 : (at_ == 0) = false := by simpa using ha
            cases haa : inB at_ 0 192
            · rw [haa] at HA
              have E := Lib.hid (show opOkB ⟨kd, pa, dst, at_, tx⟩ = false by simp [opOkB, hin, hpp, b6, b7, b3, b4, hte, hx24, ha0, haa])
              go_enter Tryd.func40, Tryd.ntmps40
              go_wp2_with (go_at_call 58; refine (HW.out _).mono ?_; rintro e w' ⟨rfl, rfl⟩)
              refine Calls.mono (HP.out _) ?_
              rintro e w1 ⟨rfl, hB1⟩
              have HB1 := Lib.hid (below_below (below_alloc (Below.refl w.heap.size w) _) hB1)
              obtain ⟨c1, f1⟩ := bcell hB1
              have hz1 : w.heap.size < w1.heap.size := (by have := hB1.size; simp at this; omega)
              clear hB1
              go_wp2_with (go_at_call 58; refine (HA.out _).mono ?_; rintro e w' ⟨rfl, rfl⟩)
              go_ret
              exact ⟨ret_bool E.out.symm, HB1.out⟩
            · rw [haa] at HA
              have E := Lib.hid (show opOkB ⟨kd, pa, dst, at_, tx⟩ = true by simp [opOkB, hin, hpp, b6, b7, b3, b4, hte, hx24, ha0, haa])
              go_enter Tryd.func40, Tryd.ntmps40
              go_wp2_with (go_at_call 58; refine (HW.out _).mono ?_; rintro e w' ⟨rfl, rfl⟩)
              refine Calls.mono (HP.out _) ?_
              rintro e w1 ⟨rfl, hB1⟩
              have HB1 := Lib.hid (below_below (below_alloc (Below.refl w.heap.size w) _) hB1)
              obtain ⟨c1, f1⟩ := bcell hB1
              have hz1 : w.heap.size < w1.heap.size := (by have := hB1.size; simp at this; omega)
              clear hB1
              go_wp2_with (go_at_call 58; refine (HA.out _).mono ?_; rintro e w' ⟨rfl, rfl⟩)
              go_ret
              exact ⟨ret_bool E.out.symm, HB1.out⟩
        · have q24 : (24 : Int) < (tx.size : Int) := by omega
          have E := Lib.hid (show opOkB ⟨kd, pa, dst, at_, tx⟩ = false by simp [opOkB, b3, hx24])
          go_enter Tryd.func40, Tryd.ntmps40
          go_wp2_with (go_at_call 58; refine (HW.out _).mono ?_; rintro e w' ⟨rfl, rfl⟩)
          refine Calls.mono (HP.out _) ?_
          rintro e w1 ⟨rfl, hB1⟩
          have HB1 := Lib.hid (below_below (below_alloc (Below.refl w.heap.size w) _) hB1)
          obtain ⟨c1, f1⟩ := bcell hB1
          have hz1 : w.heap.size < w1.heap.size := (by have := hB1.size; simp at this; omega)
          clear hB1
          go_wp2_with fail
          go_ret
          exact ⟨ret_bool E.out.symm, HB1.out⟩
  · have n3 : (kd != 3) = true := by simp [bne, b3]
    rw [hin] at HW
    cases hpp : pathB pa
    · rw [hpp] at HP
      have E := Lib.hid (show opOkB ⟨kd, pa, dst, at_, tx⟩ = false by simp [opOkB, hpp])
      go_enter Tryd.func40, Tryd.ntmps40
      go_wp2_with (go_at_call 58; refine (HW.out _).mono ?_; rintro e w' ⟨rfl, rfl⟩)
      refine Calls.mono (HP.out _) ?_
      rintro e w1 ⟨rfl, hB1⟩
      have HB1 := Lib.hid (below_below (below_alloc (Below.refl w.heap.size w) _) hB1)
      obtain ⟨c1, f1⟩ := bcell hB1
      have hz1 : w.heap.size < w1.heap.size := (by have := hB1.size; simp at this; omega)
      clear hB1
      go_wp2_with fail
      go_ret
      exact ⟨ret_bool E.out.symm, HB1.out⟩
    · rw [hpp] at HP
      cases hte : dst.toList.isEmpty
      · have E := Lib.hid (show opOkB ⟨kd, pa, dst, at_, tx⟩ = false by simp [opOkB, hte, b6, b7])
        go_enter Tryd.func40, Tryd.ntmps40
        go_wp2_with (go_at_call 58; refine (HW.out _).mono ?_; rintro e w' ⟨rfl, rfl⟩)
        refine Calls.mono (HP.out _) ?_
        rintro e w1 ⟨rfl, hB1⟩
        have HB1 := Lib.hid (below_below (below_alloc (Below.refl w.heap.size w) _) hB1)
        obtain ⟨c1, f1⟩ := bcell hB1
        have hz1 : w.heap.size < w1.heap.size := (by have := hB1.size; simp at this; omega)
        clear hB1
        go_wp2_with fail
        go_ret
        exact ⟨ret_bool E.out.symm, HB1.out⟩
      · skip
        cases hxe : tx.toList.isEmpty
        · have E := Lib.hid (show opOkB ⟨kd, pa, dst, at_, tx⟩ = false by simp [opOkB, hxe, b3])
          go_enter Tryd.func40, Tryd.ntmps40
          go_wp2_with (go_at_call 58; refine (HW.out _).mono ?_; rintro e w' ⟨rfl, rfl⟩)
          refine Calls.mono (HP.out _) ?_
          rintro e w1 ⟨rfl, hB1⟩
          have HB1 := Lib.hid (below_below (below_alloc (Below.refl w.heap.size w) _) hB1)
          obtain ⟨c1, f1⟩ := bcell hB1
          have hz1 : w.heap.size < w1.heap.size := (by have := hB1.size; simp at this; omega)
          clear hB1
          go_wp2_with fail
          go_ret
          exact ⟨ret_bool E.out.symm, HB1.out⟩
        · have hx0 := full_size hxe
          have q24 : ¬ (24 : Int) < (tx.size : Int) := by omega
          by_cases ha : at_ = 0
          · subst ha
            have E := Lib.hid (show opOkB ⟨kd, pa, dst, 0, tx⟩ = true by simp [opOkB, hin, hpp, b6, b7, b3, b4, hte, hxe])
            go_enter Tryd.func40, Tryd.ntmps40
            go_wp2_with (go_at_call 58; refine (HW.out _).mono ?_; rintro e w' ⟨rfl, rfl⟩)
            refine Calls.mono (HP.out _) ?_
            rintro e w1 ⟨rfl, hB1⟩
            have HB1 := Lib.hid (below_below (below_alloc (Below.refl w.heap.size w) _) hB1)
            obtain ⟨c1, f1⟩ := bcell hB1
            have hz1 : w.heap.size < w1.heap.size := (by have := hB1.size; simp at this; omega)
            clear hB1
            go_wp2_with fail
            go_ret
            exact ⟨ret_bool E.out.symm, HB1.out⟩
          · have ha0 : (at_ == 0) = false := by simpa using ha
            cases haa : inB at_ 0 192
            · rw [haa] at HA
              have E := Lib.hid (show opOkB ⟨kd, pa, dst, at_, tx⟩ = false by simp [opOkB, hin, hpp, b6, b7, b3, b4, hte, hxe, ha0, haa])
              go_enter Tryd.func40, Tryd.ntmps40
              go_wp2_with (go_at_call 58; refine (HW.out _).mono ?_; rintro e w' ⟨rfl, rfl⟩)
              refine Calls.mono (HP.out _) ?_
              rintro e w1 ⟨rfl, hB1⟩
              have HB1 := Lib.hid (below_below (below_alloc (Below.refl w.heap.size w) _) hB1)
              obtain ⟨c1, f1⟩ := bcell hB1
              have hz1 : w.heap.size < w1.heap.size := (by have := hB1.size; simp at this; omega)
              clear hB1
              go_wp2_with (go_at_call 58; refine (HA.out _).mono ?_; rintro e w' ⟨rfl, rfl⟩)
              go_ret
              exact ⟨ret_bool E.out.symm, HB1.out⟩
            · rw [haa] at HA
              have E := Lib.hid (show opOkB ⟨kd, pa, dst, at_, tx⟩ = true by simp [opOkB, hin, hpp, b6, b7, b3, b4, hte, hxe, ha0, haa])
              go_enter Tryd.func40, Tryd.ntmps40
              go_wp2_with (go_at_call 58; refine (HW.out _).mono ?_; rintro e w' ⟨rfl, rfl⟩)
              refine Calls.mono (HP.out _) ?_
              rintro e w1 ⟨rfl, hB1⟩
              have HB1 := Lib.hid (below_below (below_alloc (Below.refl w.heap.size w) _) hB1)
              obtain ⟨c1, f1⟩ := bcell hB1
              have hz1 : w.heap.size < w1.heap.size := (by have := hB1.size; simp at this; omega)
              clear hB1
              go_wp2_with (go_at_call 58; refine (HA.out _).mono ?_; rintro e w' ⟨rfl, rfl⟩)
              go_ret
              exact ⟨ret_bool E.out.symm, HB1.out⟩
  · cases hin : inB kd 1 7
    · rw [hin] at HW
      have E := Lib.hid (show opOkB ⟨kd, pa, dst, at_, tx⟩ = false by simp [opOkB, hin])
      go_enter Tryd.func40, Tryd.ntmps40
      go_wp2_with (go_at_call 58; refine (HW.out _).mono ?_; rintro e w' ⟨rfl, rfl⟩)
      go_ret
      exact ⟨ret_bool E.out.symm, by (repeat (first | assumption | exact Below.refl _ _ | refine below_alloc ?_ _ | refine Below.drew ?_ | refine below_drewN ?_ _ | refine below_set ?_ (by first | exact Nat.le_refl _ | omega | (simp; done) | (simp; omega)) _ | refine below_kp ?_ (by assumption) (by simp) | refine below_below ?_ (by assumption)))⟩
    · have n3 : (kd != 3) = true := by simp [bne, b3]
      rw [hin] at HW
      cases hpp : pathB pa
      · rw [hpp] at HP
        have E := Lib.hid (show opOkB ⟨kd, pa, dst, at_, tx⟩ = false by simp [opOkB, hpp])
        go_enter Tryd.func40, Tryd.ntmps40
        go_wp2_with (go_at_call 58; refine (HW.out _).mono ?_; rintro e w' ⟨rfl, rfl⟩)
        refine Calls.mono (HP.out _) ?_
        rintro e w1 ⟨rfl, hB1⟩
        have HB1 := Lib.hid (below_below (below_alloc (Below.refl w.heap.size w) _) hB1)
        obtain ⟨c1, f1⟩ := bcell hB1
        have hz1 : w.heap.size < w1.heap.size := (by have := hB1.size; simp at this; omega)
        clear hB1
        go_wp2_with fail
        go_ret
        exact ⟨ret_bool E.out.symm, HB1.out⟩
      · rw [hpp] at HP
        cases hte : dst.toList.isEmpty
        · have E := Lib.hid (show opOkB ⟨kd, pa, dst, at_, tx⟩ = false by simp [opOkB, hte, b6, b7])
          go_enter Tryd.func40, Tryd.ntmps40
          go_wp2_with (go_at_call 58; refine (HW.out _).mono ?_; rintro e w' ⟨rfl, rfl⟩)
          refine Calls.mono (HP.out _) ?_
          rintro e w1 ⟨rfl, hB1⟩
          have HB1 := Lib.hid (below_below (below_alloc (Below.refl w.heap.size w) _) hB1)
          obtain ⟨c1, f1⟩ := bcell hB1
          have hz1 : w.heap.size < w1.heap.size := (by have := hB1.size; simp at this; omega)
          clear hB1
          go_wp2_with fail
          go_ret
          exact ⟨ret_bool E.out.symm, HB1.out⟩
        · skip
          cases hxe : tx.toList.isEmpty
          · have E := Lib.hid (show opOkB ⟨kd, pa, dst, at_, tx⟩ = false by simp [opOkB, hxe, b3])
            go_enter Tryd.func40, Tryd.ntmps40
            go_wp2_with (go_at_call 58; refine (HW.out _).mono ?_; rintro e w' ⟨rfl, rfl⟩)
            refine Calls.mono (HP.out _) ?_
            rintro e w1 ⟨rfl, hB1⟩
            have HB1 := Lib.hid (below_below (below_alloc (Below.refl w.heap.size w) _) hB1)
            obtain ⟨c1, f1⟩ := bcell hB1
            have hz1 : w.heap.size < w1.heap.size := (by have := hB1.size; simp at this; omega)
            clear hB1
            go_wp2_with fail
            go_ret
            exact ⟨ret_bool E.out.symm, HB1.out⟩
          · have hx0 := full_size hxe
            have q24 : ¬ (24 : Int) < (tx.size : Int) := by omega
            by_cases ha : at_ = 0
            · subst ha
              have E := Lib.hid (show opOkB ⟨kd, pa, dst, 0, tx⟩ = true by simp [opOkB, hin, hpp, b6, b7, b3, b4, hte, hxe])
              go_enter Tryd.func40, Tryd.ntmps40
              go_wp2_with (go_at_call 58; refine (HW.out _).mono ?_; rintro e w' ⟨rfl, rfl⟩)
              refine Calls.mono (HP.out _) ?_
              rintro e w1 ⟨rfl, hB1⟩
              have HB1 := Lib.hid (below_below (below_alloc (Below.refl w.heap.size w) _) hB1)
              obtain ⟨c1, f1⟩ := bcell hB1
              have hz1 : w.heap.size < w1.heap.size := (by have := hB1.size; simp at this; omega)
              clear hB1
              go_wp2_with fail
              go_ret
              exact ⟨ret_bool E.out.symm, HB1.out⟩
            · have ha0 : (at_ == 0) = false := by simpa using ha
              have E := Lib.hid (show opOkB ⟨kd, pa, dst, at_, tx⟩ = false by simp [opOkB, hin, hpp, b6, b7, b3, b4, hte, hxe, ha0])
              go_enter Tryd.func40, Tryd.ntmps40
              go_wp2_with (go_at_call 58; refine (HW.out _).mono ?_; rintro e w' ⟨rfl, rfl⟩)
              refine Calls.mono (HP.out _) ?_
              rintro e w1 ⟨rfl, hB1⟩
              have HB1 := Lib.hid (below_below (below_alloc (Below.refl w.heap.size w) _) hB1)
              obtain ⟨c1, f1⟩ := bcell hB1
              have hz1 : w.heap.size < w1.heap.size := (by have := hB1.size; simp at this; omega)
              clear hB1
              go_wp2_with fail
              go_ret
              exact ⟨ret_bool E.out.symm, HB1.out⟩

end Go.Proofs.YtjalboplilolkaaDoor
