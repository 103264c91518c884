/- Whether an operation is valid: both texts. -/
import Derived.Test.YtjalboplilolkaaDoorPathImpl3
namespace Go.Proofs.YtjalboplilolkaaDoor
open Go.RowKit
set_option linter.unusedVariables false
set_option linter.unusedSimpArgs false

structure OpD where
  kind : Int
  path : ByteArray
  dst : ByteArray
  at_ : Int
  text : ByteArray
def OpD.v (o : OpD) : Value := .agg #[.int .i64 o.kind, .string o.path, .string o.dst, .int .i64 o.at_, .string o.text]

/-- What an operation of a kind may have. -/
def opOkB (o : OpD) : Bool :=
  inB o.kind 1 7 && (pathB o.path && ((if (o.kind == 6 || o.kind == 7) = true then pathB o.dst else o.dst.toList.isEmpty) &&
    ((if (o.kind == 3) = true then decide (o.text.size ≤ 24) else o.text.toList.isEmpty) && ((o.at_ == 0) || ((o.kind == 3 || o.kind == 4) && inB o.at_ 0 192)))))

theorem pathB_full {s : ByteArray} (h : pathB s = true) : s.toList.isEmpty = false := by
  have h1 := (pathB_cases h).1
  cases he : s.toList
  · rw [Lib.toList_data] at he
    rw [he] at h1
    cases h1
  · rfl
theorem full_size {s : ByteArray} (h : s.toList.isEmpty = true) : s.size = 0 := by
  have : s.data.toList = [] := by
    rw [← Lib.toList_data]
    exact List.isEmpty_iff.1 h
  rw [← size_data, this]; rfl

/-- Which kind, as it is asked. -/
theorem kinds (k : Int) :
    ((k == 6) = true ∧ (k == 7) = false ∧ (k == 3) = false ∧ (k == 4) = false ∧ inB k 1 7 = true) ∨
    ((k == 6) = false ∧ (k == 7) = true ∧ (k == 3) = false ∧ (k == 4) = false ∧ inB k 1 7 = true) ∨
    ((k == 6) = false ∧ (k == 7) = false ∧ (k == 3) = true ∧ (k == 4) = false ∧ inB k 1 7 = true) ∨
    ((k == 6) = false ∧ (k == 7) = false ∧ (k == 3) = false ∧ (k == 4) = true ∧ inB k 1 7 = true) ∨
    ((k == 6) = false ∧ (k == 7) = false ∧ (k == 3) = false ∧ (k == 4) = false) := by
  by_cases h6 : k = 6
  · subst h6; simp [inB]
  · by_cases h7 : k = 7
    · subst h7; simp [inB]
    · by_cases h3 : k = 3
      · subst h3; simp [inB]
      · by_cases h4 : k = 4
        · subst h4; simp [inB]
        · simp [h6, h7, h3, h4]

set_option maxHeartbeats 4000000 in
theorem opOk_any (w : World) (o : OpD) (hM : MaxAt w) (hp : o.path.size ≤ 1048576) (ht : o.dst.size ≤ 1048576) (hx : o.text.size ≤ 1048576) :
    Calls Tryd.prog 39 #[o.v] w fun e w' => e = .returned (.bool (opOkB o)) ∧ Below w.heap.size w w' := by
  obtain ⟨kd, pa, dst, at_, tx⟩ := o
  dsimp only at hp ht hx
  have HM := Lib.hid hM
  have HP := Lib.hid (fun w hM => pathOk_any w pa hM hp)
  have HT := Lib.hid (fun w hM => pathOk_any w dst hM ht)
  have HW := Lib.hid (fun w => within_any kd 1 7 w)
  have HA := Lib.hid (fun w => within_any at_ 0 192 w)
  clear hM
  simp only [OpD.v]
  rcases kinds kd with ⟨b6, b7, b3, b4, hin⟩ | ⟨b6, b7, b3, b4, hin⟩ | ⟨b6, b7, b3, b4, hin⟩ | ⟨b6, b7, b3, b4, hin⟩ | ⟨b6, b7, b3, b4⟩
  · skip
    rw [hin] at HW
    cases hpp : pathB pa
    · rw [hpp] at HP
      have E := Lib.hid (show opOkB ⟨kd, pa, dst, at_, tx⟩ = false by simp [opOkB, hpp])
      go_enter Tryd.func39, Tryd.ntmps39
      go_wp2_with (go_at_call 56; refine (HW.out _).mono ?_; rintro e w' ⟨rfl, rfl⟩)
      refine Calls.mono (HP.out _ (HM.out.below (below_alloc (Below.refl w.heap.size w) _))) ?_
      rintro e w1 ⟨rfl, hB1⟩
      have HB1 := Lib.hid (below_below (below_alloc (Below.refl w.heap.size w) _) hB1)
      obtain ⟨c1, f1⟩ := bcell hB1; have hz1 : w.heap.size < w1.heap.size := (by have := hB1.size; simp at this; omega)
      clear hB1
      go_wp2_with fail
      go_ret
      exact ⟨ret_bool E.out.symm, HB1.out⟩
    · rw [hpp] at HP
      cases htt : pathB dst
      · rw [htt] at HT
        have E := Lib.hid (show opOkB ⟨kd, pa, dst, at_, tx⟩ = false by simp [opOkB, htt, b6, b7])
        cases hte : dst.toList.isEmpty
        · go_enter Tryd.func39, Tryd.ntmps39
          go_wp2_with (go_at_call 56; refine (HW.out _).mono ?_; rintro e w' ⟨rfl, rfl⟩)
          refine Calls.mono (HP.out _ (HM.out.below (below_alloc (Below.refl w.heap.size w) _))) ?_
          rintro e w1 ⟨rfl, hB1⟩
          have HB1 := Lib.hid (below_below (below_alloc (Below.refl w.heap.size w) _) hB1)
          obtain ⟨c1, f1⟩ := bcell hB1; have hz1 : w.heap.size < w1.heap.size := (by have := hB1.size; simp at this; omega)
          clear hB1
          go_wp2_with fail
          refine Calls.mono (HT.out _ (HM.out.below HB1.out)) ?_
          rintro e w2 ⟨rfl, hB2⟩
          have HB2 := Lib.hid (below_below HB1.out hB2)
          obtain ⟨c2, f2⟩ := bcell hB2
          clear hB2
          go_wp2_with fail
          go_ret
          exact ⟨ret_bool E.out.symm, HB2.out⟩
        · go_enter Tryd.func39, Tryd.ntmps39
          go_wp2_with (go_at_call 56; refine (HW.out _).mono ?_; rintro e w' ⟨rfl, rfl⟩)
          refine Calls.mono (HP.out _ (HM.out.below (below_alloc (Below.refl w.heap.size w) _))) ?_
          rintro e w1 ⟨rfl, hB1⟩
          have HB1 := Lib.hid (below_below (below_alloc (Below.refl w.heap.size w) _) hB1)
          obtain ⟨c1, f1⟩ := bcell hB1; have hz1 : w.heap.size < w1.heap.size := (by have := hB1.size; simp at this; omega)
          clear hB1
          go_wp2_with fail
          go_ret
          exact ⟨ret_bool E.out.symm, HB1.out⟩
      · have hte := pathB_full htt
        rw [htt] at HT
        by_cases ha : at_ = 0
        · subst ha
          have haa : inB 0 0 192 = true := by decide
          rw [haa] at HA
          cases hxe : tx.toList.isEmpty
          · have E := Lib.hid (show opOkB ⟨kd, pa, dst, 0, tx⟩ = false by simp [opOkB, hin, hpp, htt, b6, b7, b3, b4, haa, hxe])
            go_enter Tryd.func39, Tryd.ntmps39
            go_wp2_with (go_at_call 56; refine (HW.out _).mono ?_; rintro e w' ⟨rfl, rfl⟩)
            refine Calls.mono (HP.out _ (HM.out.below (below_alloc (Below.refl w.heap.size w) _))) ?_
            rintro e w1 ⟨rfl, hB1⟩
            have HB1 := Lib.hid (below_below (below_alloc (Below.refl w.heap.size w) _) hB1)
            obtain ⟨c1, f1⟩ := bcell hB1; have hz1 : w.heap.size < w1.heap.size := (by have := hB1.size; simp at this; omega)
            clear hB1
            go_wp2_with fail
            refine Calls.mono (HT.out _ (HM.out.below HB1.out)) ?_
            rintro e w2 ⟨rfl, hB2⟩
            have HB2 := Lib.hid (below_below HB1.out hB2)
            obtain ⟨c2, f2⟩ := bcell hB2
            clear hB2
            go_wp2_with (go_at_call 56; refine (HA.out _).mono ?_; rintro e w' ⟨rfl, rfl⟩)
            go_ret
            exact ⟨ret_bool E.out.symm, HB2.out⟩
          · have E := Lib.hid (show opOkB ⟨kd, pa, dst, 0, tx⟩ = true by simp [opOkB, hin, hpp, htt, b6, b7, b3, b4, haa, hxe])
            go_enter Tryd.func39, Tryd.ntmps39
            go_wp2_with (go_at_call 56; refine (HW.out _).mono ?_; rintro e w' ⟨rfl, rfl⟩)
            refine Calls.mono (HP.out _ (HM.out.below (below_alloc (Below.refl w.heap.size w) _))) ?_
            rintro e w1 ⟨rfl, hB1⟩
            have HB1 := Lib.hid (below_below (below_alloc (Below.refl w.heap.size w) _) hB1)
            obtain ⟨c1, f1⟩ := bcell hB1; have hz1 : w.heap.size < w1.heap.size := (by have := hB1.size; simp at this; omega)
            clear hB1
            go_wp2_with fail
            refine Calls.mono (HT.out _ (HM.out.below HB1.out)) ?_
            rintro e w2 ⟨rfl, hB2⟩
            have HB2 := Lib.hid (below_below HB1.out hB2)
            obtain ⟨c2, f2⟩ := bcell hB2
            clear hB2
            go_wp2_with (go_at_call 56; refine (HA.out _).mono ?_; rintro e w' ⟨rfl, rfl⟩)
            go_ret
            exact ⟨ret_bool E.out.symm, HB2.out⟩
        · have ha0 : (at_ == 0) = false := by simpa using ha
          have ha1 : (at_ != 0) = true := by simp [bne, ha0]
          have E := Lib.hid (show opOkB ⟨kd, pa, dst, at_, tx⟩ = false by simp [opOkB, ha0, b3, b4])
          go_enter Tryd.func39, Tryd.ntmps39
          go_wp2_with (go_at_call 56; refine (HW.out _).mono ?_; rintro e w' ⟨rfl, rfl⟩)
          refine Calls.mono (HP.out _ (HM.out.below (below_alloc (Below.refl w.heap.size w) _))) ?_
          rintro e w1 ⟨rfl, hB1⟩
          have HB1 := Lib.hid (below_below (below_alloc (Below.refl w.heap.size w) _) hB1)
          obtain ⟨c1, f1⟩ := bcell hB1; have hz1 : w.heap.size < w1.heap.size := (by have := hB1.size; simp at this; omega)
          clear hB1
          go_wp2_with fail
          refine Calls.mono (HT.out _ (HM.out.below HB1.out)) ?_
          rintro e w2 ⟨rfl, hB2⟩
          have HB2 := Lib.hid (below_below HB1.out hB2)
          obtain ⟨c2, f2⟩ := bcell hB2
          clear hB2
          go_wp2_with fail
          go_ret
          exact ⟨ret_bool E.out.symm, HB2.out⟩
  · skip
    rw [hin] at HW
    cases hpp : pathB pa
    · rw [hpp] at HP
      have E := Lib.hid (show opOkB ⟨kd, pa, dst, at_, tx⟩ = false by simp [opOkB, hpp])
      go_enter Tryd.func39, Tryd.ntmps39
      go_wp2_with (go_at_call 56; refine (HW.out _).mono ?_; rintro e w' ⟨rfl, rfl⟩)
      refine Calls.mono (HP.out _ (HM.out.below (below_alloc (Below.refl w.heap.size w) _))) ?_
      rintro e w1 ⟨rfl, hB1⟩
      have HB1 := Lib.hid (below_below (below_alloc (Below.refl w.heap.size w) _) hB1)
      obtain ⟨c1, f1⟩ := bcell hB1; have hz1 : w.heap.size < w1.heap.size := (by have := hB1.size; simp at this; omega)
      clear hB1
      go_wp2_with fail
      go_ret
      exact ⟨ret_bool E.out.symm, HB1.out⟩
    · rw [hpp] at HP
      cases htt : pathB dst
      · rw [htt] at HT
        have E := Lib.hid (show opOkB ⟨kd, pa, dst, at_, tx⟩ = false by simp [opOkB, htt, b6, b7])
        cases hte : dst.toList.isEmpty
        · go_enter Tryd.func39, Tryd.ntmps39
          go_wp2_with (go_at_call 56; refine (HW.out _).mono ?_; rintro e w' ⟨rfl, rfl⟩)
          refine Calls.mono (HP.out _ (HM.out.below (below_alloc (Below.refl w.heap.size w) _))) ?_
          rintro e w1 ⟨rfl, hB1⟩
          have HB1 := Lib.hid (below_below (below_alloc (Below.refl w.heap.size w) _) hB1)
          obtain ⟨c1, f1⟩ := bcell hB1; have hz1 : w.heap.size < w1.heap.size := (by have := hB1.size; simp at this; omega)
          clear hB1
          go_wp2_with fail
          refine Calls.mono (HT.out _ (HM.out.below HB1.out)) ?_
          rintro e w2 ⟨rfl, hB2⟩
          have HB2 := Lib.hid (below_below HB1.out hB2)
          obtain ⟨c2, f2⟩ := bcell hB2
          clear hB2
          go_wp2_with fail
          go_ret
          exact ⟨ret_bool E.out.symm, HB2.out⟩
        · go_enter Tryd.func39, Tryd.ntmps39
          go_wp2_with (go_at_call 56; refine (HW.out _).mono ?_; rintro e w' ⟨rfl, rfl⟩)
          refine Calls.mono (HP.out _ (HM.out.below (below_alloc (Below.refl w.heap.size w) _))) ?_
          rintro e w1 ⟨rfl, hB1⟩
          have HB1 := Lib.hid (below_below (below_alloc (Below.refl w.heap.size w) _) hB1)
          obtain ⟨c1, f1⟩ := bcell hB1; have hz1 : w.heap.size < w1.heap.size := (by have := hB1.size; simp at this; omega)
          clear hB1
          go_wp2_with fail
          go_ret
          exact ⟨ret_bool E.out.symm, HB1.out⟩
      · have hte := pathB_full htt
        rw [htt] at HT
        by_cases ha : at_ = 0
        · subst ha
          have haa : inB 0 0 192 = true := by decide
          rw [haa] at HA
          cases hxe : tx.toList.isEmpty
          · have E := Lib.hid (show opOkB ⟨kd, pa, dst, 0, tx⟩ = false by simp [opOkB, hin, hpp, htt, b6, b7, b3, b4, haa, hxe])
            go_enter Tryd.func39, Tryd.ntmps39
            go_wp2_with (go_at_call 56; refine (HW.out _).mono ?_; rintro e w' ⟨rfl, rfl⟩)
            refine Calls.mono (HP.out _ (HM.out.below (below_alloc (Below.refl w.heap.size w) _))) ?_
            rintro e w1 ⟨rfl, hB1⟩
            have HB1 := Lib.hid (below_below (below_alloc (Below.refl w.heap.size w) _) hB1)
            obtain ⟨c1, f1⟩ := bcell hB1; have hz1 : w.heap.size < w1.heap.size := (by have := hB1.size; simp at this; omega)
            clear hB1
            go_wp2_with fail
            refine Calls.mono (HT.out _ (HM.out.below HB1.out)) ?_
            rintro e w2 ⟨rfl, hB2⟩
            have HB2 := Lib.hid (below_below HB1.out hB2)
            obtain ⟨c2, f2⟩ := bcell hB2
            clear hB2
            go_wp2_with (go_at_call 56; refine (HA.out _).mono ?_; rintro e w' ⟨rfl, rfl⟩)
            go_ret
            exact ⟨ret_bool E.out.symm, HB2.out⟩
          · have E := Lib.hid (show opOkB ⟨kd, pa, dst, 0, tx⟩ = true by simp [opOkB, hin, hpp, htt, b6, b7, b3, b4, haa, hxe])
            go_enter Tryd.func39, Tryd.ntmps39
            go_wp2_with (go_at_call 56; refine (HW.out _).mono ?_; rintro e w' ⟨rfl, rfl⟩)
            refine Calls.mono (HP.out _ (HM.out.below (below_alloc (Below.refl w.heap.size w) _))) ?_
            rintro e w1 ⟨rfl, hB1⟩
            have HB1 := Lib.hid (below_below (below_alloc (Below.refl w.heap.size w) _) hB1)
            obtain ⟨c1, f1⟩ := bcell hB1; have hz1 : w.heap.size < w1.heap.size := (by have := hB1.size; simp at this; omega)
            clear hB1
            go_wp2_with fail
            refine Calls.mono (HT.out _ (HM.out.below HB1.out)) ?_
            rintro e w2 ⟨rfl, hB2⟩
            have HB2 := Lib.hid (below_below HB1.out hB2)
            obtain ⟨c2, f2⟩ := bcell hB2
            clear hB2
            go_wp2_with (go_at_call 56; refine (HA.out _).mono ?_; rintro e w' ⟨rfl, rfl⟩)
            go_ret
            exact ⟨ret_bool E.out.symm, HB2.out⟩
        · have ha0 : (at_ == 0) = false := by simpa using ha
          have ha1 : (at_ != 0) = true := by simp [bne, ha0]
          have E := Lib.hid (show opOkB ⟨kd, pa, dst, at_, tx⟩ = false by simp [opOkB, ha0, b3, b4])
          go_enter Tryd.func39, Tryd.ntmps39
          go_wp2_with (go_at_call 56; refine (HW.out _).mono ?_; rintro e w' ⟨rfl, rfl⟩)
          refine Calls.mono (HP.out _ (HM.out.below (below_alloc (Below.refl w.heap.size w) _))) ?_
          rintro e w1 ⟨rfl, hB1⟩
          have HB1 := Lib.hid (below_below (below_alloc (Below.refl w.heap.size w) _) hB1)
          obtain ⟨c1, f1⟩ := bcell hB1; have hz1 : w.heap.size < w1.heap.size := (by have := hB1.size; simp at this; omega)
          clear hB1
          go_wp2_with fail
          refine Calls.mono (HT.out _ (HM.out.below HB1.out)) ?_
          rintro e w2 ⟨rfl, hB2⟩
          have HB2 := Lib.hid (below_below HB1.out hB2)
          obtain ⟨c2, f2⟩ := bcell hB2
          clear hB2
          go_wp2_with fail
          go_ret
          exact ⟨ret_bool E.out.symm, HB2.out⟩
  · skip
    rw [hin] at HW
    cases hpp : pathB pa
    · rw [hpp] at HP
      have E := Lib.hid (show opOkB ⟨kd, pa, dst, at_, tx⟩ = false by simp [opOkB, hpp])
      go_enter Tryd.func39, Tryd.ntmps39
      go_wp2_with (go_at_call 56; refine (HW.out _).mono ?_; rintro e w' ⟨rfl, rfl⟩)
      refine Calls.mono (HP.out _ (HM.out.below (below_alloc (Below.refl w.heap.size w) _))) ?_
      rintro e w1 ⟨rfl, hB1⟩
      have HB1 := Lib.hid (below_below (below_alloc (Below.refl w.heap.size w) _) hB1)
      obtain ⟨c1, f1⟩ := bcell hB1; have hz1 : w.heap.size < w1.heap.size := (by have := hB1.size; simp at this; omega)
      clear hB1
      go_wp2_with fail
      go_ret
      exact ⟨ret_bool E.out.symm, HB1.out⟩
    · rw [hpp] at HP
      cases hte : dst.toList.isEmpty
      · have E := Lib.hid (show opOkB ⟨kd, pa, dst, at_, tx⟩ = false by simp [opOkB, hte, b6, b7])
        go_enter Tryd.func39, Tryd.ntmps39
        go_wp2_with (go_at_call 56; refine (HW.out _).mono ?_; rintro e w' ⟨rfl, rfl⟩)
        refine Calls.mono (HP.out _ (HM.out.below (below_alloc (Below.refl w.heap.size w) _))) ?_
        rintro e w1 ⟨rfl, hB1⟩
        have HB1 := Lib.hid (below_below (below_alloc (Below.refl w.heap.size w) _) hB1)
        obtain ⟨c1, f1⟩ := bcell hB1; have hz1 : w.heap.size < w1.heap.size := (by have := hB1.size; simp at this; omega)
        clear hB1
        go_wp2_with fail
        go_ret
        exact ⟨ret_bool E.out.symm, HB1.out⟩
      · skip
        cases haa : inB at_ 0 192
        · rw [haa] at HA
          have ha0 : (at_ == 0) = false := by
            cases h0 : (at_ == 0)
            · rfl
            · rw [beq_iff_eq] at h0; subst h0; simp [inB] at haa
          have E := Lib.hid (show opOkB ⟨kd, pa, dst, at_, tx⟩ = false by simp [opOkB, haa, ha0])
          go_enter Tryd.func39, Tryd.ntmps39
          go_wp2_with (go_at_call 56; refine (HW.out _).mono ?_; rintro e w' ⟨rfl, rfl⟩)
          refine Calls.mono (HP.out _ (HM.out.below (below_alloc (Below.refl w.heap.size w) _))) ?_
          rintro e w1 ⟨rfl, hB1⟩
          have HB1 := Lib.hid (below_below (below_alloc (Below.refl w.heap.size w) _) hB1)
          obtain ⟨c1, f1⟩ := bcell hB1; have hz1 : w.heap.size < w1.heap.size := (by have := hB1.size; simp at this; omega)
          clear hB1
          go_wp2_with (go_at_call 56; refine (HA.out _).mono ?_; rintro e w' ⟨rfl, rfl⟩)
          go_ret
          exact ⟨ret_bool E.out.symm, HB1.out⟩
        · rw [haa] at HA
          cases hxe : tx.toList.isEmpty
          · by_cases hx24 : tx.size ≤ 24
            · have E := Lib.hid (show opOkB ⟨kd, pa, dst, at_, tx⟩ = true by simp [opOkB, hin, hpp, hte, b6, b7, b3, b4, haa, hxe, hx24])
              have q24 : decide ((tx.size : Int) ≤ 24) = true := by simp; omega
              go_enter Tryd.func39, Tryd.ntmps39
              go_wp2_with (go_at_call 56; refine (HW.out _).mono ?_; rintro e w' ⟨rfl, rfl⟩)
              refine Calls.mono (HP.out _ (HM.out.below (below_alloc (Below.refl w.heap.size w) _))) ?_
              rintro e w1 ⟨rfl, hB1⟩
              have HB1 := Lib.hid (below_below (below_alloc (Below.refl w.heap.size w) _) hB1)
              obtain ⟨c1, f1⟩ := bcell hB1; have hz1 : w.heap.size < w1.heap.size := (by have := hB1.size; simp at this; omega)
              clear hB1
              go_wp2_with (go_at_call 56; refine (HA.out _).mono ?_; rintro e w' ⟨rfl, rfl⟩)
              go_ret
              exact ⟨ret_bool (by first | exact E.out.symm | (rw [E.out]; exact q24)), HB1.out⟩
            · have E := Lib.hid (show opOkB ⟨kd, pa, dst, at_, tx⟩ = false by simp [opOkB, hin, hpp, hte, b6, b7, b3, b4, haa, hxe, hx24])
              have q24 : decide ((tx.size : Int) ≤ 24) = false := by simp; omega
              go_enter Tryd.func39, Tryd.ntmps39
              go_wp2_with (go_at_call 56; refine (HW.out _).mono ?_; rintro e w' ⟨rfl, rfl⟩)
              refine Calls.mono (HP.out _ (HM.out.below (below_alloc (Below.refl w.heap.size w) _))) ?_
              rintro e w1 ⟨rfl, hB1⟩
              have HB1 := Lib.hid (below_below (below_alloc (Below.refl w.heap.size w) _) hB1)
              obtain ⟨c1, f1⟩ := bcell hB1; have hz1 : w.heap.size < w1.heap.size := (by have := hB1.size; simp at this; omega)
              clear hB1
              go_wp2_with (go_at_call 56; refine (HA.out _).mono ?_; rintro e w' ⟨rfl, rfl⟩)
              go_ret
              exact ⟨ret_bool (by first | exact E.out.symm | (rw [E.out]; exact q24)), HB1.out⟩
          · have hx0 := full_size hxe
            have E := Lib.hid (show opOkB ⟨kd, pa, dst, at_, tx⟩ = true by simp [opOkB, hin, hpp, hte, b6, b7, b3, b4, haa, hxe, hx0])
            go_enter Tryd.func39, Tryd.ntmps39
            go_wp2_with (go_at_call 56; refine (HW.out _).mono ?_; rintro e w' ⟨rfl, rfl⟩)
            refine Calls.mono (HP.out _ (HM.out.below (below_alloc (Below.refl w.heap.size w) _))) ?_
            rintro e w1 ⟨rfl, hB1⟩
            have HB1 := Lib.hid (below_below (below_alloc (Below.refl w.heap.size w) _) hB1)
            obtain ⟨c1, f1⟩ := bcell hB1; have hz1 : w.heap.size < w1.heap.size := (by have := hB1.size; simp at this; omega)
            clear hB1
            go_wp2_with (go_at_call 56; refine (HA.out _).mono ?_; rintro e w' ⟨rfl, rfl⟩)
            go_ret
            exact ⟨ret_bool E.out.symm, HB1.out⟩
  · skip
    rw [hin] at HW
    cases hpp : pathB pa
    · rw [hpp] at HP
      have E := Lib.hid (show opOkB ⟨kd, pa, dst, at_, tx⟩ = false by simp [opOkB, hpp])
      go_enter Tryd.func39, Tryd.ntmps39
      go_wp2_with (go_at_call 56; refine (HW.out _).mono ?_; rintro e w' ⟨rfl, rfl⟩)
      refine Calls.mono (HP.out _ (HM.out.below (below_alloc (Below.refl w.heap.size w) _))) ?_
      rintro e w1 ⟨rfl, hB1⟩
      have HB1 := Lib.hid (below_below (below_alloc (Below.refl w.heap.size w) _) hB1)
      obtain ⟨c1, f1⟩ := bcell hB1; have hz1 : w.heap.size < w1.heap.size := (by have := hB1.size; simp at this; omega)
      clear hB1
      go_wp2_with fail
      go_ret
      exact ⟨ret_bool E.out.symm, HB1.out⟩
    · rw [hpp] at HP
      cases hte : dst.toList.isEmpty
      · have E := Lib.hid (show opOkB ⟨kd, pa, dst, at_, tx⟩ = false by simp [opOkB, hte, b6, b7])
        go_enter Tryd.func39, Tryd.ntmps39
        go_wp2_with (go_at_call 56; refine (HW.out _).mono ?_; rintro e w' ⟨rfl, rfl⟩)
        refine Calls.mono (HP.out _ (HM.out.below (below_alloc (Below.refl w.heap.size w) _))) ?_
        rintro e w1 ⟨rfl, hB1⟩
        have HB1 := Lib.hid (below_below (below_alloc (Below.refl w.heap.size w) _) hB1)
        obtain ⟨c1, f1⟩ := bcell hB1; have hz1 : w.heap.size < w1.heap.size := (by have := hB1.size; simp at this; omega)
        clear hB1
        go_wp2_with fail
        go_ret
        exact ⟨ret_bool E.out.symm, HB1.out⟩
      · skip
        cases haa : inB at_ 0 192
        · rw [haa] at HA
          have ha0 : (at_ == 0) = false := by
            cases h0 : (at_ == 0)
            · rfl
            · rw [beq_iff_eq] at h0; subst h0; simp [inB] at haa
          have E := Lib.hid (show opOkB ⟨kd, pa, dst, at_, tx⟩ = false by simp [opOkB, haa, ha0])
          go_enter Tryd.func39, Tryd.ntmps39
          go_wp2_with (go_at_call 56; refine (HW.out _).mono ?_; rintro e w' ⟨rfl, rfl⟩)
          refine Calls.mono (HP.out _ (HM.out.below (below_alloc (Below.refl w.heap.size w) _))) ?_
          rintro e w1 ⟨rfl, hB1⟩
          have HB1 := Lib.hid (below_below (below_alloc (Below.refl w.heap.size w) _) hB1)
          obtain ⟨c1, f1⟩ := bcell hB1; have hz1 : w.heap.size < w1.heap.size := (by have := hB1.size; simp at this; omega)
          clear hB1
          go_wp2_with (go_at_call 56; refine (HA.out _).mono ?_; rintro e w' ⟨rfl, rfl⟩)
          go_ret
          exact ⟨ret_bool E.out.symm, HB1.out⟩
        · rw [haa] at HA
          cases hxe : tx.toList.isEmpty
          · have E := Lib.hid (show opOkB ⟨kd, pa, dst, at_, tx⟩ = false by simp [opOkB, hin, hpp, hte, b6, b7, b3, b4, haa, hxe])
            go_enter Tryd.func39, Tryd.ntmps39
            go_wp2_with (go_at_call 56; refine (HW.out _).mono ?_; rintro e w' ⟨rfl, rfl⟩)
            refine Calls.mono (HP.out _ (HM.out.below (below_alloc (Below.refl w.heap.size w) _))) ?_
            rintro e w1 ⟨rfl, hB1⟩
            have HB1 := Lib.hid (below_below (below_alloc (Below.refl w.heap.size w) _) hB1)
            obtain ⟨c1, f1⟩ := bcell hB1; have hz1 : w.heap.size < w1.heap.size := (by have := hB1.size; simp at this; omega)
            clear hB1
            go_wp2_with (go_at_call 56; refine (HA.out _).mono ?_; rintro e w' ⟨rfl, rfl⟩)
            go_ret
            exact ⟨ret_bool E.out.symm, HB1.out⟩
          · have E := Lib.hid (show opOkB ⟨kd, pa, dst, at_, tx⟩ = true by simp [opOkB, hin, hpp, hte, b6, b7, b3, b4, haa, hxe])
            go_enter Tryd.func39, Tryd.ntmps39
            go_wp2_with (go_at_call 56; refine (HW.out _).mono ?_; rintro e w' ⟨rfl, rfl⟩)
            refine Calls.mono (HP.out _ (HM.out.below (below_alloc (Below.refl w.heap.size w) _))) ?_
            rintro e w1 ⟨rfl, hB1⟩
            have HB1 := Lib.hid (below_below (below_alloc (Below.refl w.heap.size w) _) hB1)
            obtain ⟨c1, f1⟩ := bcell hB1; have hz1 : w.heap.size < w1.heap.size := (by have := hB1.size; simp at this; omega)
            clear hB1
            go_wp2_with (go_at_call 56; refine (HA.out _).mono ?_; rintro e w' ⟨rfl, rfl⟩)
            go_ret
            exact ⟨ret_bool E.out.symm, HB1.out⟩
  · cases hin : inB kd 1 7
    · rw [hin] at HW
      have E := Lib.hid (show opOkB ⟨kd, pa, dst, at_, tx⟩ = false by simp [opOkB, hin])
      go_enter Tryd.func39, Tryd.ntmps39
      go_wp2_with (go_at_call 56; refine (HW.out _).mono ?_; rintro e w' ⟨rfl, rfl⟩)
      go_ret
      exact ⟨ret_bool E.out.symm, by (repeat (first | assumption | exact Below.refl _ _ | refine below_alloc ?_ _ | refine Below.drew ?_ | refine below_drewN ?_ _ | refine below_set ?_ (by first | exact Nat.le_refl _ | omega | (simp; done) | (simp; omega)) _ | refine below_kp ?_ (by assumption) (by simp) | refine below_below ?_ (by assumption)))⟩
    · skip
      rw [hin] at HW
      cases hpp : pathB pa
      · rw [hpp] at HP
        have E := Lib.hid (show opOkB ⟨kd, pa, dst, at_, tx⟩ = false by simp [opOkB, hpp])
        go_enter Tryd.func39, Tryd.ntmps39
        go_wp2_with (go_at_call 56; refine (HW.out _).mono ?_; rintro e w' ⟨rfl, rfl⟩)
        refine Calls.mono (HP.out _ (HM.out.below (below_alloc (Below.refl w.heap.size w) _))) ?_
        rintro e w1 ⟨rfl, hB1⟩
        have HB1 := Lib.hid (below_below (below_alloc (Below.refl w.heap.size w) _) hB1)
        obtain ⟨c1, f1⟩ := bcell hB1; have hz1 : w.heap.size < w1.heap.size := (by have := hB1.size; simp at this; omega)
        clear hB1
        go_wp2_with fail
        go_ret
        exact ⟨ret_bool E.out.symm, HB1.out⟩
      · rw [hpp] at HP
        cases hte : dst.toList.isEmpty
        · have E := Lib.hid (show opOkB ⟨kd, pa, dst, at_, tx⟩ = false by simp [opOkB, hte, b6, b7])
          go_enter Tryd.func39, Tryd.ntmps39
          go_wp2_with (go_at_call 56; refine (HW.out _).mono ?_; rintro e w' ⟨rfl, rfl⟩)
          refine Calls.mono (HP.out _ (HM.out.below (below_alloc (Below.refl w.heap.size w) _))) ?_
          rintro e w1 ⟨rfl, hB1⟩
          have HB1 := Lib.hid (below_below (below_alloc (Below.refl w.heap.size w) _) hB1)
          obtain ⟨c1, f1⟩ := bcell hB1; have hz1 : w.heap.size < w1.heap.size := (by have := hB1.size; simp at this; omega)
          clear hB1
          go_wp2_with fail
          go_ret
          exact ⟨ret_bool E.out.symm, HB1.out⟩
        · skip
          by_cases ha : at_ = 0
          · subst ha
            have haa : inB 0 0 192 = true := by decide
            rw [haa] at HA
            cases hxe : tx.toList.isEmpty
            · have E := Lib.hid (show opOkB ⟨kd, pa, dst, 0, tx⟩ = false by simp [opOkB, hin, hpp, hte, b6, b7, b3, b4, haa, hxe])
              go_enter Tryd.func39, Tryd.ntmps39
              go_wp2_with (go_at_call 56; refine (HW.out _).mono ?_; rintro e w' ⟨rfl, rfl⟩)
              refine Calls.mono (HP.out _ (HM.out.below (below_alloc (Below.refl w.heap.size w) _))) ?_
              rintro e w1 ⟨rfl, hB1⟩
              have HB1 := Lib.hid (below_below (below_alloc (Below.refl w.heap.size w) _) hB1)
              obtain ⟨c1, f1⟩ := bcell hB1; have hz1 : w.heap.size < w1.heap.size := (by have := hB1.size; simp at this; omega)
              clear hB1
              go_wp2_with (go_at_call 56; refine (HA.out _).mono ?_; rintro e w' ⟨rfl, rfl⟩)
              go_ret
              exact ⟨ret_bool E.out.symm, HB1.out⟩
            · have E := Lib.hid (show opOkB ⟨kd, pa, dst, 0, tx⟩ = true by simp [opOkB, hin, hpp, hte, b6, b7, b3, b4, haa, hxe])
              go_enter Tryd.func39, Tryd.ntmps39
              go_wp2_with (go_at_call 56; refine (HW.out _).mono ?_; rintro e w' ⟨rfl, rfl⟩)
              refine Calls.mono (HP.out _ (HM.out.below (below_alloc (Below.refl w.heap.size w) _))) ?_
              rintro e w1 ⟨rfl, hB1⟩
              have HB1 := Lib.hid (below_below (below_alloc (Below.refl w.heap.size w) _) hB1)
              obtain ⟨c1, f1⟩ := bcell hB1; have hz1 : w.heap.size < w1.heap.size := (by have := hB1.size; simp at this; omega)
              clear hB1
              go_wp2_with (go_at_call 56; refine (HA.out _).mono ?_; rintro e w' ⟨rfl, rfl⟩)
              go_ret
              exact ⟨ret_bool E.out.symm, HB1.out⟩
          · have ha0 : (at_ == 0) = false := by simpa using ha
            have ha1 : (at_ != 0) = true := by simp [bne, ha0]
            have E := Lib.hid (show opOkB ⟨kd, pa, dst, at_, tx⟩ = false by simp [opOkB, ha0, b3, b4])
            go_enter Tryd.func39, Tryd.ntmps39
            go_wp2_with (go_at_call 56; refine (HW.out _).mono ?_; rintro e w' ⟨rfl, rfl⟩)
            refine Calls.mono (HP.out _ (HM.out.below (below_alloc (Below.refl w.heap.size w) _))) ?_
            rintro e w1 ⟨rfl, hB1⟩
            have HB1 := Lib.hid (below_below (below_alloc (Below.refl w.heap.size w) _) hB1)
            obtain ⟨c1, f1⟩ := bcell hB1; have hz1 : w.heap.size < w1.heap.size := (by have := hB1.size; simp at this; omega)
            clear hB1
            go_wp2_with fail
            go_ret
            exact ⟨ret_bool E.out.symm, HB1.out⟩

end Go.Proofs.YtjalboplilolkaaDoor
