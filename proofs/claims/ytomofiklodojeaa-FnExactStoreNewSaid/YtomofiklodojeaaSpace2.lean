/- Space: the reference's SpaceOk. -/
import Derived.Test.YtomofiklodojeaaSpace
namespace Go.Proofs.Ytomofiklodojeaa
open Go.RowKit
set_option linter.unusedVariables false
set_option linter.unusedSimpArgs false

set_option maxHeartbeats 2000000 in
theorem specSpaceOk_any (w : World) (A B : Option Addr) (c d : Nat) (rs ls : List Int) (h : RdT encN 1 w A rs) (g : RdT encN 1 w B ls) (hc : rs.length ≤ c) (hd : ls.length ≤ d) (hcm : c ≤ 9223372036854775807) (hdm : d ≤ 9223372036854775807) :
    Calls Try.prog 71 #[.agg #[.slice A rs.length c, .slice B ls.length d]] w fun e w' => e = .returned (.bool (spaceB rs ls)) ∧ Below w.heap.size w w' := by
  by_cases h1 : rs.length = 64
  · by_cases h2 : ls.length = 64
    · have HR := Lib.hid h
      have HG := Lib.hid g
      have L1 := Lib.hid h1
      have L2 := Lib.hid h2
      rw [h1, h2]
      rw [h1] at hc
      rw [h2] at hd
      clear h g h1 h2
      go_enter Try.func71, Try.ntmps71
      go_wp2_with fail
      obtain ⟨Wa, hWa⟩ : ∃ Wa, Wa = w.alloc (.cells #[.slice A 64 c, .slice B 64 d] 27) := ⟨_, rfl⟩
      have hsz : Wa.heap.size = w.heap.size + 1 := by rw [hWa]; simp
      have s0 : Wa.cell? ⟨w.heap.size, 0, none⟩ = some (.slice A 64 c) := by rw [hWa]; unfold World.cell?; simp only [heap_alloc_new]; rfl
      have s1 : Wa.cell? ⟨w.heap.size, 1, none⟩ = some (.slice B 64 d) := by rw [hWa]; unfold World.cell?; simp only [heap_alloc_new]; rfl
      have hBa := Lib.hid (show Below w.heap.size w Wa by rw [hWa]; exact (Below.refl _ _).alloc (Nat.le_refl _) _)
      have hlt0 : w.heap.size < Wa.heap.size := by omega
      rw [← hWa]
      clear hWa hsz
      go_loopw [3] (fun v wr => ∃ k : Nat, k ≤ 64 ∧ v = .int .i64 k ∧ Hid (∀ i, i < k → okRow i (rs.getD i 0) (ls.getD i 0) = true) ∧ Hid (Below Wa.heap.size Wa wr)) (fun v _ => 64 - (intOf v).toNat)
      case atStart => exact ⟨0, Nat.zero_le _, rfl, Lib.hid (fun i hi => by omega), Lib.hid (Below.refl _ _)⟩
      case round =>
        obtain ⟨k, hk, rfl, HK, HB⟩ := hrel
        obtain ⟨cb, fb⟩ := bcell HB.out
        have hltr : w.heap.size < wr.heap.size := Nat.lt_of_lt_of_le hlt0 HB.out.size
        have HBw := Lib.hid (show Below w.heap.size w wr from hBa.out.trans (HB.out.mono (by omega)))
        by_cases hlt : k < 64
        · obtain ⟨b, off, rfl, hb, c0⟩ := num_at (k := k) (HR.out.below HBw.out) (by rw [L1.out]; exact hlt)
          obtain ⟨b2, off2, rfl, hb2, c1⟩ := num_at (k := k) (HG.out.below HBw.out) (by rw [L2.out]; exact hlt)
          have HN := Lib.hid (fun h => spaceB_no (rs := rs) (ls := ls) hlt h)
          have HK2 := Lib.hid (fun (h : okRow k (rs.getD k 0) (ls.getD k 0) = true) => (show ∀ i, i < k + 1 → okRow i (rs.getD i 0) (ls.getD i 0) = true from fun i hi => by
            rcases Nat.lt_or_ge i k with h' | h'
            · exact HK.out i h'
            · have : i = k := by omega
              subst this; exact h))
          generalize rs.getD k 0 = n at *
          generalize ls.getD k 0 = l at *
          have t0 := (cb _ 0 hlt0).trans s0
          have t1 := (cb _ 1 hlt0).trans s1
          have HW1 := Lib.hid (l6In_any l 0 900)
          have HW2 := Lib.hid (l6In_any n 0 l)
          have HW3 := Lib.hid (l2Row_any (k : Int))
          clear s0 s1 cb fb
          cases i1 : inB l 0 900
          · have := inB_false i1
            rw [i1] at HW1
            have E := Lib.hid (HN.out (okRow_no (by omega)))
            clear HN HK2 HK
            go_wp2_with fail
            refine wp_quiet_b (by kernel_rfl) (by kernel_rfl) (fun hgrow => ?_)
            repeat (go_big_quiet_step ((go_at_call 72; exact quiet_s (HW1.out _))))
            refine wpQuiet_nil ?_
            intro w2 hww2
            replace hww2 := below_of_regrown hww2
            clear hgrow
            go_wp2_with fail
            go_ret
            exact ⟨ret_bool E.out.symm, below_below HBw.out hww2⟩
          · have j1 := inB_true i1
            rw [i1] at HW1
            cases i2 : inB n 0 l
            · have := inB_false i2
              rw [i2] at HW2
              have E := Lib.hid (HN.out (okRow_no (by omega)))
              clear HN HK2 HK
              go_wp2_with fail
              refine wp_quiet_b (by kernel_rfl) (by kernel_rfl) (fun hgrow => ?_)
              repeat (go_big_quiet_step ((first | (go_at_call 72; with_reducible exact quiet_s (HW1.out _)) | (go_at_call 72; with_reducible exact quiet_s (HW2.out _)) | (go_at_call 101; with_reducible exact quiet_s (HW3.out _)))))
              refine wpQuiet_nil ?_
              intro w2 hww2
              replace hww2 := below_of_regrown hww2
              clear hgrow
              go_wp2_with fail
              go_ret
              exact ⟨ret_bool E.out.symm, below_below HBw.out hww2⟩
            · have j2 := inB_true i2
              rw [i2] at HW2
              by_cases hz : n = 0
              · have z1 : (n == 0) = true := by simpa using hz
                have z3 : ¬ 0 < n := by omega
                by_cases hlz : l = 0
                · have z2 : (l != 0) = false := by simp [bne, hlz]
                  clear i1 i2
                  cases i3 : inB (k : Int) 8 63
                  all_goals
                    rw [i3] at HW3
                    have HK3 := Lib.hid (HK2.out (okRow_iff.2 (by omega)))
                    clear HN HK2 HK hz hlz
                    go_wp2_with fail
                    refine wp_quiet_b (by kernel_rfl) (by kernel_rfl) (fun hgrow => ?_)
                    repeat (go_big_quiet_step ((first | (go_at_call 72; with_reducible exact quiet_s (HW1.out _)) | (go_at_call 72; with_reducible exact quiet_s (HW2.out _)) | (go_at_call 101; with_reducible exact quiet_s (HW3.out _)))))
                    refine wpQuiet_nil ?_
                    intro w2 hww2
                    replace hww2 := below_of_regrown hww2
                    clear hgrow
                    go_wp2_with fail
                    go_roundw
                    case rel => exact ⟨k + 1, by omega, by go_num, HK3, Lib.hid (below_below HB.out hww2)⟩
                    case measure => simp [intOf]; omega
                · have z2 : (l != 0) = true := by simpa [bne] using hlz
                  clear i1 i2
                  have E := Lib.hid (HN.out (okRow_no (by omega)))
                  clear HN HK2 HK hz
                  go_wp2_with fail
                  refine wp_quiet_b (by kernel_rfl) (by kernel_rfl) (fun hgrow => ?_)
                  repeat (go_big_quiet_step ((first | (go_at_call 72; with_reducible exact quiet_s (HW1.out _)) | (go_at_call 72; with_reducible exact quiet_s (HW2.out _)) | (go_at_call 101; with_reducible exact quiet_s (HW3.out _)))))
                  refine wpQuiet_nil ?_
                  intro w2 hww2
                  replace hww2 := below_of_regrown hww2
                  clear hgrow
                  go_wp2_with fail
                  go_ret
                  exact ⟨ret_bool E.out.symm, below_below HBw.out hww2⟩
              · have z1 : (n == 0) = false := by simpa using hz
                have z3 : 0 < n := by omega
                clear i1 i2
                cases i3 : inB (k : Int) 8 63
                · have := inB_false i3
                  rw [i3] at HW3
                  have E := Lib.hid (HN.out (okRow_no (by omega)))
                  clear HN HK2 HK
                  go_wp2_with fail
                  refine wp_quiet_b (by kernel_rfl) (by kernel_rfl) (fun hgrow => ?_)
                  repeat (go_big_quiet_step ((first | (go_at_call 72; with_reducible exact quiet_s (HW1.out _)) | (go_at_call 72; with_reducible exact quiet_s (HW2.out _)) | (go_at_call 101; with_reducible exact quiet_s (HW3.out _)))))
                  refine wpQuiet_nil ?_
                  intro w2 hww2
                  replace hww2 := below_of_regrown hww2
                  clear hgrow
                  go_wp2_with fail
                  go_ret
                  exact ⟨ret_bool E.out.symm, below_below HBw.out hww2⟩
                · have := inB_true i3
                  rw [i3] at HW3
                  have HK3 := Lib.hid (HK2.out (okRow_iff.2 (by omega)))
                  clear HN HK2 HK
                  go_wp2_with fail
                  refine wp_quiet_b (by kernel_rfl) (by kernel_rfl) (fun hgrow => ?_)
                  repeat (go_big_quiet_step ((first | (go_at_call 72; with_reducible exact quiet_s (HW1.out _)) | (go_at_call 72; with_reducible exact quiet_s (HW2.out _)) | (go_at_call 101; with_reducible exact quiet_s (HW3.out _)))))
                  refine wpQuiet_nil ?_
                  intro w2 hww2
                  replace hww2 := below_of_regrown hww2
                  clear hgrow
                  go_wp2_with fail
                  go_roundw
                  case rel => exact ⟨k + 1, by omega, by go_num, HK3, Lib.hid (below_below HB.out hww2)⟩
                  case measure => simp [intOf]; omega
        · obtain rfl : k = 64 := by omega
          have E := Lib.hid (spaceB_yes L1.out L2.out HK.out)
          go_wp2_with fail
          go_ret
          exact ⟨ret_bool E.out.symm, HBw.out⟩
    · have E := Lib.hid (spaceB_len (rs := rs) (ls := ls) (.inr h2))
      have g2 : ((ls.length : Int) != 64) = true := by simp [bne]; omega
      have g1 : ((rs.length : Int) != 64) = false := by simp [bne]; omega
      clear h g
      go_enter Try.func71, Try.ntmps71
      go_wp2_with fail
      go_ret
      exact ⟨ret_bool E.out.symm, by (repeat (first | assumption | exact Below.refl _ _ | refine below_alloc ?_ _ | refine Below.drew ?_ | refine below_drewN ?_ _ | refine below_set ?_ (by first | exact Nat.le_refl _ | omega | (simp; done) | (simp; omega)) _ | refine below_kp ?_ (by assumption) (by simp) | refine below_below ?_ (by assumption)))⟩
  · have E := Lib.hid (spaceB_len (rs := rs) (ls := ls) (.inl h1))
    have g1 : ((rs.length : Int) != 64) = true := by simp [bne]; omega
    clear h g
    go_enter Try.func71, Try.ntmps71
    go_wp2_with fail
    go_ret
    exact ⟨ret_bool E.out.symm, by (repeat (first | assumption | exact Below.refl _ _ | refine below_alloc ?_ _ | refine Below.drew ?_ | refine below_drewN ?_ _ | refine below_set ?_ (by first | exact Nat.le_refl _ | omega | (simp; done) | (simp; omega)) _ | refine below_kp ?_ (by assumption) (by simp) | refine below_below ?_ (by assumption)))⟩

end Go.Proofs.Ytomofiklodojeaa
