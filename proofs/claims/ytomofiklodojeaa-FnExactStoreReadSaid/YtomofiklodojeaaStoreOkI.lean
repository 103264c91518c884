/- A store's validity: the program's text. -/
import Derived.Test.YtomofiklodojeaaStoreCnt
import Derived.Test.YtomofiklodojeaaRead
import Derived.Test.YtomofiklodojeaaStoreNew
namespace Go.Proofs.Ytomofiklodojeaa
open Go.RowKit Go.Sort
set_option maxRecDepth 100000
set_option linter.unusedVariables false
set_option linter.unusedSimpArgs false

theorem head_len {s : St} (h : ¬ s.rows.length = 64) : headB s = false := by simp [headB, h]
theorem head_sp {s : St} (h : spaceB s.refs s.last = false) : headB s = false := by simp [headB, h]
theorem head_txg {s : St} (h : inB s.txg 1 900 = false) : headB s = false := by simp [headB, h]
theorem head_keep {s : St} (h : inB s.keep 0 (s.txg - 1) = false) : headB s = false := by simp [headB, h]
theorem head_yes {s : St} (h1 : s.rows.length = 64) (h2 : spaceB s.refs s.last = true) (h3 : inB s.txg 1 900 = true) (h4 : inB s.keep 0 (s.txg - 1) = true) : headB s = true := by simp [headB, h1, h2, h3, h4]
theorem space_lens {rs ls : List Int} (h : spaceB rs ls = true) : rs.length = 64 ∧ ls.length = 64 := by
  simp only [spaceB, Bool.and_eq_true, decide_eq_true_eq] at h
  exact ⟨h.1, h.2.1⟩
theorem bad_store {s : St} {p : Pt} (hp : p ∈ s.gone ∧ badP (s.txg - 1) s.refs p ∨ p ∈ s.dead ∧ badP s.keep s.refs p) : storeB s = false := by
  have hmem : p ∈ s.gone ++ s.dead := by
    rcases hp with ⟨h, _⟩ | ⟨h, _⟩ <;> simp [h]
  rcases hp with ⟨h, h1 | h2⟩ | ⟨h, h1 | h2⟩
  · exact store_gone h h1
  · have := cnt_mem hmem (by omega)
    exact store_owed (j := p.at_.toNat) (by omega) (by omega)
  · exact store_dead h h1
  · have := cnt_mem hmem (by omega)
    exact store_owed (j := p.at_.toNat) (by omega) (by omega)

theorem emp_eq (l : List UInt8) : (l == (⟨#[]⟩ : ByteArray).toList) = l.isEmpty := by simp

/-- What is known of a store's parts in each world above. -/
structure StK (w : World) (x : SA) (s : St) : Prop where
  rd : SRd w x s
  mG : x.nG ≤ 1048576
  mD : x.nD ≤ 1048576
theorem StK.sp {w : World} {x : SA} {s : St} (H : StK w x s) (W : World) (hB : Below w.heap.size w W) : Calls Try.prog 24 #[.agg #[.slice x.A x.nA x.cA, .slice x.B x.nB x.cB]] W fun e w' => e = .returned (.bool (spaceB s.refs s.last)) ∧ Below W.heap.size W w' := by
  have := spaceOk_any W x.A x.B x.cA x.cB s.refs s.last (H.rd.refs.below hB) (H.rd.last.below hB) (by rw [H.rd.lA]; exact H.rd.hA) (by rw [H.rd.lB]; exact H.rd.hB) H.rd.mA H.rd.mB
  rw [H.rd.lA, H.rd.lB] at this
  exact this
theorem StK.mx {w : World} {x : SA} {s : St} (H : StK w x s) (W : World) (hB : Below w.heap.size w W) (h64 : x.nB = 64) : Calls Try.prog 75 #[.slice x.B 64 x.cB] W fun e w' => e = .returned (.int .i64 (maxL s.last)) ∧ W = w' := by
  have := slicesMax_any W x.B x.cB s.last (H.rd.last.below hB) (by rw [H.rd.lB, h64]; omega) (by rw [H.rd.lB]; exact H.rd.hB) H.rd.mB
  rw [H.rd.lB, h64] at this
  exact this

set_option maxHeartbeats 8000000 in
theorem storeOk_any (w : World) (x : SA) (s : St) (h : SRd w x s) (mG : x.nG ≤ 1048576) (mD : x.nD ≤ 1048576) :
    Calls Try.prog 34 #[x.v s.txg s.keep s.same] w fun e w' => e = .returned (.bool (storeB s)) ∧ Below w.heap.size w w' := by
  have HK := Lib.hid (show StK w x s from ⟨h, mG, mD⟩)
  have HSP := Lib.hid HK.out.sp
  have HMX := Lib.hid HK.out.mx
  have hnR := h.lR
  have hnA := h.lA
  have hnB := h.lB
  have hnG := h.lG
  have hnD := h.lD
  clear h
  obtain ⟨R, nR, cR, A, nA, cA, B, nB, cB, G, nG, cG, D, nD, cD⟩ := x
  unfold SA.v
  dsimp only at *
  subst hnG
  subst hnD
  have HBw := Lib.hid (below_alloc (Below.refl w.heap.size w) (.cells #[.slice R nR cR, .slice A nA cA, .slice B nB cB, .int .i64 s.txg, .slice G s.gone.length cG, .int .i64 s.keep, .slice D s.dead.length cD, .bool s.same] 47))
  have BXw := Lib.hid (box_new w #[.slice R nR cR, .slice A nA cA, .slice B nB cB, .int .i64 s.txg, .slice G s.gone.length cG, .int .i64 s.keep, .slice D s.dead.length cD, .bool s.same] 47)
  have bx := BXw.out.cell
  have bl := BXw.out.lt
  by_cases h1 : s.rows.length = 64
  · have e1 : nR = 64 := by omega
    subst e1
    cases h2 : spaceB s.refs s.last
    · have E := Lib.hid (store_head (head_sp h2))
      rw [h2] at HSP
      clear h2 hnA hnB
      go_enter Try.func34, Try.ntmps34
      go_wp2_with fail
      refine wp_quiet_b (by kernel_rfl) (by kernel_rfl) (fun hgrow => ?_)
      repeat (go_big_quiet_step ((go_at_call 24; exact quiet_b (HSP.out _ (below_below HBw.out (below_regrown _ _ _))))))
      refine wpQuiet_nil ?_
      intro w2 hww2
      replace hww2 := below_of_regrown hww2
      clear hgrow
      have HB2 := Lib.hid (below_below HBw.out hww2)
      clear hww2
      go_wp2_with fail
      go_ret
      exact ⟨ret_bool E.out.symm, HB2.out⟩
    · obtain ⟨hA64, hB64⟩ := space_lens h2
      have e2 : nA = 64 := by omega
      have e3 : nB = 64 := by omega
      subst e2
      subst e3
      rw [h2] at HSP
      replace HMX := Lib.hid (fun W hB => HMX.out W hB rfl)
      cases h3 : inB s.txg 1 900
      · have E := Lib.hid (store_head (head_txg h3))
        clear h2 hnA hnB
        go_enter Try.func34, Try.ntmps34
        go_wp2_with fail
        refine wp_quiet_b (by kernel_rfl) (by kernel_rfl) (fun hgrow => ?_)
        repeat (go_big_quiet_step ((first | (go_at_call 24; exact quiet_b (HSP.out _ (below_below HBw.out (below_regrown _ _ _)))) | (go_at_call 64; exact quiet_s (within_any _ _ _ _)))))
        refine wpQuiet_nil ?_
        intro w2 hww2
        replace hww2 := below_of_regrown hww2
        clear hgrow
        have HB2 := Lib.hid (below_below HBw.out hww2)
        clear hww2
        go_wp2_with fail
        go_ret
        exact ⟨ret_bool E.out.symm, HB2.out⟩
      · obtain ⟨ht1, ht2⟩ := inB_true h3
        cases h4 : inB s.keep 0 (s.txg - 1)
        · have E := Lib.hid (store_head (head_keep h4))
          clear h2 hnA hnB
          go_enter Try.func34, Try.ntmps34
          go_wp2_with fail
          refine wp_quiet_b (by kernel_rfl) (by kernel_rfl) (fun hgrow => ?_)
          repeat (go_big_quiet_step ((first | (go_at_call 24; exact quiet_b (HSP.out _ (below_below HBw.out (below_regrown _ _ _)))) | (go_at_call 64; exact quiet_s (within_any _ _ _ _)))))
          refine wpQuiet_nil ?_
          intro w2 hww2
          replace hww2 := below_of_regrown hww2
          clear hgrow
          have HB2 := Lib.hid (below_below HBw.out hww2)
          clear hww2
          go_wp2_with fail
          go_ret
          exact ⟨ret_bool E.out.symm, HB2.out⟩
        · have HD := Lib.hid (head_yes h1 h2 h3 h4)
          obtain ⟨hk1, hk2⟩ := inB_true h4
          obtain ⟨mx, hmx⟩ : ∃ mx, maxL s.last = mx := ⟨_, rfl⟩
          rw [hmx] at HMX
          by_cases h5 : mx ≤ s.txg
          · have h5b : decide (s.txg < mx) = false := decide_eq_false (by omega)
            have HLA := Lib.hid (fun i hi => last_all (i := i) HD.out (by rw [hmx]; exact h5) hi)
            clear h2 hnA hnB hmx
            go_enter Try.func34, Try.ntmps34
            go_wp2_with fail
            refine wp_quiet_b (by kernel_rfl) (by kernel_rfl) (fun hgrow => ?_)
            repeat (go_big_quiet_step ((first | (go_at_call 24; exact quiet_b (HSP.out _ (below_below HBw.out (below_regrown _ _ _)))) | (go_at_call 64; exact quiet_s (within_any _ _ _ _)) | (go_at_call 75; exact quiet_s (HMX.out _ (below_below HBw.out (below_regrown _ _ _)))))))
            refine wpQuiet_nil ?_
            intro w2 hww2
            replace hww2 := below_of_regrown hww2
            clear hgrow
            have HB2 := Lib.hid (below_below HBw.out hww2)
            have BX2 := Lib.hid (BXw.out.below hww2)
            have bx2 := BX2.out.cell
            have bl2 := BX2.out.lt
            clear hww2 bx bl HSP HMX
            go_wp2_with fail
            have HRS := Lib.hid (fun W (hB : Below w.heap.size w W) => HK.out.rd.below hB)
            have HRW := Lib.hid (fun W (hB : Below w.heap.size w W) k (hk : k < 64) => str_at (k := k) (HRS.out W hB).rows (by rw [h1]; exact hk))
            have HAW := Lib.hid (fun W (hB : Below w.heap.size w W) k (hk : k < 64) => num_at (k := k) (HRS.out W hB).refs (by rw [hA64]; exact hk))
            have HNO := Lib.hid (fun k (hk : k < 64) (h : ((s.rows.getD k ⟨#[]⟩).toList == (⟨#[]⟩ : ByteArray).toList) ≠ (s.refs.getD k 0 == 0)) => store_row (s := s) (k := k) hk (row_no (.inr h)))
            have HNS := Lib.hid (fun k (hk : k < 64) (h : ¬ (s.rows.getD k ⟨#[]⟩).size ≤ 128) => store_row (s := s) (k := k) hk (row_no (.inl (fun hh => h hh.1))))
            have HYE := Lib.hid (fun k (hk : k < 64) (h1 : (s.rows.getD k ⟨#[]⟩).size ≤ 128) (h2 : ((s.rows.getD k ⟨#[]⟩).toList == (⟨#[]⟩ : ByteArray).toList) = (s.refs.getD k 0 == 0)) => row_yes (s := s) (i := k) h1 (HLA.out k hk) h2)
            clear hA64 hB64 h1 h5 h5b HLA
            go_loopw [46] (fun i wr => ∃ k : Nat, k ≤ 64 ∧ i = .int .i64 k ∧ Hid (∀ i, i < k → rowB s i = true) ∧ w2 = wr) (fun i _ => 64 - (intOf i).toNat)
            case atStart => exact ⟨0, Nat.zero_le _, rfl, Lib.hid (fun i hi => by omega), rfl⟩
            case round =>
              obtain ⟨k, hk, rfl, HO, rfl⟩ := hrel
              by_cases hlt : k < 64
              · obtain ⟨b1, o1, hq1, hb1, c1⟩ := HRW.out w2 HB2.out k hlt
                obtain ⟨b2, o2, hq2, hb2, c2⟩ := HAW.out w2 HB2.out k hlt
                subst hq1
                subst hq2
                have HNO2 := Lib.hid (HNO.out k hlt)
                have HNS2 := Lib.hid (HNS.out k hlt)
                have HYE2 := Lib.hid (HYE.out k hlt)
                generalize hrow : s.rows.getD k ⟨#[]⟩ = row at *
                generalize s.refs.getD k 0 = n at *
                by_cases hs : row.size ≤ 128
                · by_cases hm : (row.toList == (⟨#[]⟩ : ByteArray).toList) = (n == 0)
                  · have HY := Lib.hid (HYE2.out hs hm)
                    have HO2 := Lib.hid (show ∀ i, i < k + 1 → rowB s i = true from fun i hi => by
                      rcases Nat.lt_or_ge i k with h' | h'
                      · exact HO.out i h'
                      · have : i = k := by omega
                        subst this; exact HY.out)
                    clear HNO2 HNS2 HYE2
                    rw [emp_eq] at hm
                    cases hz : (n == 0)
                    · rw [hz] at hm
                      go_wp2_with fail
                      go_roundw
                      case rel => exact ⟨_, _, _, _, ⟨k + 1, by omega, by go_num, HO2⟩, rfl, rfl, rfl, rfl⟩
                      case measure => simp [intOf]; omega
                    · rw [hz] at hm
                      go_wp2_with fail
                      go_roundw
                      case rel => exact ⟨_, _, _, _, ⟨k + 1, by omega, by go_num, HO2⟩, rfl, rfl, rfl, rfl⟩
                      case measure => simp [intOf]; omega
                  · have E := Lib.hid (HNO2.out hm)
                    clear HNO2 HNS2 HYE2
                    rw [emp_eq] at hm
                    cases hz : (n == 0)
                    · rw [hz] at hm
                      have hm' : row.toList.isEmpty = true := by simpa using hm
                      clear hm
                      go_wp2_with fail
                      go_ret
                      exact ⟨ret_bool E.out.symm, HB2.out⟩
                    · rw [hz] at hm
                      have hm' : row.toList.isEmpty = false := Bool.eq_false_iff.2 hm
                      clear hm
                      go_wp2_with fail
                      go_ret
                      exact ⟨ret_bool E.out.symm, HB2.out⟩
                · have E := Lib.hid (HNS2.out hs)
                  clear HNO2 HYE2
                  go_wp2_with fail
                  go_ret
                  exact ⟨ret_bool E.out.symm, HB2.out⟩
              · obtain rfl : k = 64 := by omega
                clear HRW HNO HNS HYE
                have hmk : ∀ W : World, (Instr.makeSlice 25 (.int .i64 64) (.int .i64 64)).run Try.prog W = .ok (.slice (some ⟨W.heap.size, 0, none⟩) 64 64) (W.alloc (zerosN 64)) := make_N 64 (by omega)
                have hB3 := below_alloc (below_alloc (Below.refl w2.heap.size w2) (zerosN 64)) (.cells #[.slice (some ⟨w2.heap.size, 0, none⟩) 64 64] 25)
                have HB3 := Lib.hid (below_below HB2.out hB3)
                have S3 := Lib.hid (BX2.out.below hB3)
                have OB3 := box_new (w2.alloc (zerosN 64)) #[.slice (some ⟨w2.heap.size, 0, none⟩) 64 64] 25
                rw [World.size_alloc] at OB3
                have OW3 := own_zerosN (base := w.heap.size) (b := w2.heap.size) (n := 64) (w := (w2.alloc (zerosN 64)).alloc (.cells #[.slice (some ⟨w2.heap.size, 0, none⟩) 64 64] 25)) (by omega) (by omega) (hp_old (by simp) (hp_new rfl))
                rw [← cntRow_nil] at OW3
                have HNG := Lib.hid (show ∀ (xs : List Pt) (X : Option Addr), RdT encP 5 w2 X xs → 0 < xs.length → ∀ a, X = some a → a.block ≠ w2.heap.size from fun xs X hr h0 a ha => by have := hr.lt h0 a ha; omega)
                have HNA := Lib.hid (show ∀ a, A = some a → a.block ≠ w2.heap.size from fun a ha => by have := (HRS.out w2 HB2.out).refs.lt (by have := (HRS.out w2 HB2.out).lA; dsimp only at this; omega) a ha; omega)
                have HLR := Lib.hid (show s.refs.length = 64 from (HRS.out w2 HB2.out).lA)
                have HC1 := Lib.hid (count_any w.heap.size _ G A cG cA s.gone [] s.refs (s.txg - 1) w.heap.size (w2.heap.size + 1) w2.heap.size _ _ _ _ _ _ _ (HRS.out _ HB3.out).gone mG (by simp) S3.out (HRS.out _ HB3.out).refs HLR.out OB3 OW3 (by omega) (by omega) (HNG.out _ _ (HRS.out w2 HB2.out).gone) HNA.out)
                have OB3h := Lib.hid OB3
                clear hB3 OB3 OW3
                go_wp2_with fail
                refine Calls.mono HC1.out ?_
                rintro e w4 ⟨ok, rfl, hY, hN, hK4⟩
                have HB4 := Lib.hid (below_kp HB3.out hK4 (fun k hk => by simp at hk; omega))
                clear HC1
                cases ok
                · obtain ⟨p, hp, hbad⟩ := hN rfl
                  have E := Lib.hid (bad_store (.inl ⟨hp, hbad⟩))
                  clear hY hN hK4 hp hbad
                  go_wp2_with fail
                  go_ret
                  exact ⟨ret_bool E.out.symm, HB4.out⟩
                · obtain ⟨hall, hO4⟩ := hY rfl
                  rw [List.nil_append] at hO4
                  have S4 := Lib.hid (S3.out.kp hK4 (by simp; omega))
                  have OB4 := Lib.hid (OB3h.out.kp hK4 (by simp))
                  have HA1 := Lib.hid hall
                  have s4 := S4.out.cell
                  have o4 := OB4.out.cell
                  have HC2 := Lib.hid (count_any w.heap.size w4 D A cD cA s.dead s.gone s.refs s.keep w.heap.size (w2.heap.size + 1) w2.heap.size _ _ _ _ _ _ _ (HRS.out _ HB4.out).dead mD mG S4.out (HRS.out _ HB4.out).refs HLR.out OB4.out hO4 (by omega) (by omega) (HNG.out _ _ (HRS.out w2 HB2.out).dead) HNA.out)
                  clear hY hN hK4 hall hO4 S3 OB3h bx2
                  go_wp2_with fail
                  refine Calls.mono HC2.out ?_
                  rintro e w5 ⟨ok, rfl, hY, hN, hK5⟩
                  have HB5 := Lib.hid (below_kp HB4.out hK5 (fun k hk => by simp at hk; omega))
                  clear HC2
                  cases ok
                  · obtain ⟨p, hp, hbad⟩ := hN rfl
                    have E := Lib.hid (bad_store (.inr ⟨hp, hbad⟩))
                    clear hY hN hK5 hp hbad
                    go_wp2_with fail
                    go_ret
                    exact ⟨ret_bool E.out.symm, HB5.out⟩
                  · obtain ⟨hall, hO5⟩ := hY rfl
                    have S5 := Lib.hid (S4.out.kp hK5 (by simp; omega))
                    have OB5 := Lib.hid (OB4.out.kp hK5 (by simp))
                    have OW5 := Lib.hid hO5
                    have HA2 := Lib.hid hall
                    have s5 := S5.out.cell
                    have o5 := OB5.out.cell
                    have HYS := Lib.hid (fun h => store_yes HD.out HO.out HA1.out HA2.out h)
                    have HNW := Lib.hid (fun j (hj : j < 64) (h : s.refs.getD j 0 < cnt (s.gone ++ s.dead) j) => store_owed hj h)
                    clear hY hN hK5 hall hO5 S4 OB4 s4 o4
                    go_wp2_with fail
                    go_loopw [88] (fun i wr => ∃ k : Nat, k ≤ 64 ∧ i = .int .i64 k ∧ Hid (∀ j, j < k → cnt (s.gone ++ s.dead) j ≤ s.refs.getD j 0) ∧ w5 = wr) (fun i _ => 64 - (intOf i).toNat)
                    case atStart => exact ⟨0, Nat.zero_le _, rfl, Lib.hid (fun i hi => by omega), rfl⟩
                    case round =>
                      obtain ⟨k, hk, rfl, HJ, rfl⟩ := hrel
                      by_cases hlt : k < 64
                      · obtain ⟨b2, o2, hq2, hb2, c2⟩ := HAW.out w5 HB5.out k hlt
                        subst hq2
                        obtain ⟨b3, o3, hq3, hb3, c3⟩ := num_at (k := k) (own_rdG OW5.out).1 (by rw [cntRow_len]; exact hlt)
                        cases hq3
                        rw [Nat.zero_add, cntRow_get _ hlt] at c3
                        have HNW2 := Lib.hid (HNW.out k hlt)
                        have HJ2 := Lib.hid (show cnt (s.gone ++ s.dead) k ≤ s.refs.getD k 0 → ∀ j, j < k + 1 → cnt (s.gone ++ s.dead) j ≤ s.refs.getD j 0 from fun h i hi => by
                          rcases Nat.lt_or_ge i k with h' | h'
                          · exact HJ.out i h'
                          · have : i = k := by omega
                            subst this; exact h)
                        generalize cnt (s.gone ++ s.dead) k = cv at *
                        generalize s.refs.getD k 0 = n at *
                        by_cases hcv : cv ≤ n
                        · have HJ3 := Lib.hid (HJ2.out hcv)
                          clear HNW2 HJ2
                          go_wp2_with fail
                          go_roundw
                          case rel => exact ⟨k + 1, by omega, by go_num, HJ3, by trivial⟩
                          case measure => simp [intOf]; omega
                        · have E := Lib.hid (HNW2.out (by omega))
                          clear HNW2 HJ2
                          go_wp2_with fail
                          go_ret
                          exact ⟨ret_bool E.out.symm, HB5.out⟩
                      · obtain rfl : k = 64 := by omega
                        have E := Lib.hid (HYS.out HJ.out)
                        go_wp2_with fail
                        go_ret
                        exact ⟨ret_bool E.out.symm, HB5.out⟩
          · have h5b : decide (s.txg < mx) = true := decide_eq_true (by omega)
            have E := Lib.hid (last_bad HD.out (by rw [hmx]; exact h5))
            clear h2 hnA hnB hmx
            go_enter Try.func34, Try.ntmps34
            go_wp2_with fail
            refine wp_quiet_b (by kernel_rfl) (by kernel_rfl) (fun hgrow => ?_)
            repeat (go_big_quiet_step ((first | (go_at_call 24; exact quiet_b (HSP.out _ (below_below HBw.out (below_regrown _ _ _)))) | (go_at_call 64; exact quiet_s (within_any _ _ _ _)) | (go_at_call 75; exact quiet_s (HMX.out _ (below_below HBw.out (below_regrown _ _ _)))))))
            refine wpQuiet_nil ?_
            intro w2 hww2
            replace hww2 := below_of_regrown hww2
            clear hgrow
            have HB2 := Lib.hid (below_below HBw.out hww2)
            clear hww2
            go_wp2_with fail
            go_ret
            exact ⟨ret_bool E.out.symm, HB2.out⟩
  · have E := Lib.hid (store_head (head_len h1))
    have h1' : ((nR : Int) != 64) = true := by
      simp only [bne_iff_ne, ne_eq]
      omega
    clear h1 hnR hnA hnB
    go_enter Try.func34, Try.ntmps34
    go_wp2_with fail
    refine wp_quiet_b (by kernel_rfl) (by kernel_rfl) (fun hgrow => ?_)
    repeat (go_big_quiet_step (fail))
    refine wpQuiet_nil ?_
    intro w2 hww2
    replace hww2 := below_of_regrown hww2
    clear hgrow
    have HB2 := Lib.hid (below_below HBw.out hww2)
    clear hww2
    go_wp2_with fail
    go_ret
    exact ⟨ret_bool E.out.symm, HB2.out⟩

end Go.Proofs.Ytomofiklodojeaa
