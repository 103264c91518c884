/- A store's validity: the reference's text. -/
import Derived.Test.YtomofiklodojeaaStoreOkI
import Derived.Test.YtomofiklodojeaaSpace2
import Derived.StillTailTactics
namespace Go.Proofs.Ytomofiklodojeaa
open Go.RowKit Go.Sort
set_option maxRecDepth 100000
set_option linter.unusedVariables false
set_option linter.unusedSimpArgs false

theorem BoxAt.put {w : World} {b : Nat} {cs : Array Value} {T : TypeId} (h : BoxAt w b cs T) (j : Nat) (v : Value) : BoxAt (w.setCell ⟨b, j, none⟩ v) b (cs.setIfInBounds j v) T := by
  obtain ⟨hlt, hk⟩ := Array.getElem?_eq_some_iff.1 (show w.heap[b]? = some (.cells cs T) from h)
  show (w.heap.modify b _)[b]? = _
  rw [Array.getElem?_eq_getElem (by rw [Array.size_modify]; exact hlt), Array.getElem_modify_self, hk]
  rfl
theorem space_nn {rs ls : List Int} (h : spaceB rs ls = true) {j : Nat} (hj : j < 64) : 0 ≤ rs.getD j 0 := by
  simp only [spaceB, Bool.and_eq_true, decide_eq_true_eq, List.all_eq_true] at h
  exact (okRow_iff.1 (h.2.2 j (by simpa using hj))).1
def topAt (s : St) (i : Nat) : Int := if i < s.gone.length then s.txg - 1 else s.keep

theorem StK.sp2 {w : World} {x : SA} {s : St} (H : StK w x s) (W : World) (hB : Below w.heap.size w W) : Calls Try.prog 71 #[.agg #[.slice x.A x.nA x.cA, .slice x.B x.nB x.cB]] W fun e w' => e = .returned (.bool (spaceB s.refs s.last)) ∧ Below W.heap.size W w' := by
  have := specSpaceOk_any W x.A x.B x.cA x.cB s.refs s.last (H.rd.refs.below hB) (H.rd.last.below hB) (by rw [H.rd.lA]; exact H.rd.hA) (by rw [H.rd.lB]; exact H.rd.hB) H.rd.mA H.rd.mB
  rw [H.rd.lA, H.rd.lB] at this
  exact this

/-- How far the reference has come with the pointers. -/
structure SCnt (w : World) (b : Nat) (cs : Array Value) (s : St) (k : Nat) (wr : World) : Prop where
  ok : ∀ i p, i < k → (s.gone ++ s.dead)[i]? = some p → goneB (topAt s i) p = true
  own : Own encN 1 3 w.heap.size wr (.slice (some ⟨b, 0, none⟩) 64 64) (cntRow ((s.gone ++ s.dead).take k))
  cap : ∀ j, j < 64 → cnt ((s.gone ++ s.dead).take k) j ≤ s.refs.getD j 0
  box : BoxAt wr w.heap.size cs 47
  bel : Below w.heap.size w wr
theorem SCnt.below {w : World} {b : Nat} {cs : Array Value} {s : St} {k : Nat} {wr w' : World} (h : SCnt w b cs s k wr) (hB : Below wr.heap.size wr w') : SCnt w b cs s k w' :=
  ⟨h.ok, h.own.below hB, h.cap, h.box.below hB, below_below h.bel hB⟩
theorem scnt_step {w : World} {b : Nat} {cs : Array Value} {s : St} {k : Nat} {wr w3 : World} {p : Pt} (h : SCnt w b cs s k wr) (he : (s.gone ++ s.dead)[k]? = some p) (hy : goneB (topAt s k) p = true) (h0 : 0 ≤ p.at_) (h1 : p.at_ < 64)
    (O : Own encN 1 3 w.heap.size w3 (.slice (some ⟨b, 0, none⟩) 64 64) (cntRow ((s.gone ++ s.dead).take k))) :
    (∀ i q, i < k + 1 → (s.gone ++ s.dead)[i]? = some q → goneB (topAt s i) q = true) ∧
    Own encN 1 3 w.heap.size (w3.setCell ⟨b, p.at_.toNat, none⟩ (.int .i64 (cnt ((s.gone ++ s.dead).take k) p.at_.toNat + 1))).drew (.slice (some ⟨b, 0, none⟩) 64 64) (cntRow ((s.gone ++ s.dead).take (k + 1))) ∧
    (cnt ((s.gone ++ s.dead).take k) p.at_.toNat + 1 ≤ s.refs.getD p.at_.toNat 0 → ∀ j, j < 64 → cnt ((s.gone ++ s.dead).take (k + 1)) j ≤ s.refs.getD j 0) := by
  refine ⟨?_, ?_, ?_⟩
  · intro i q hi hq
    rcases Nat.lt_or_ge i k with h' | h'
    · exact h.ok i q h' hq
    · obtain rfl : i = k := by omega
      rw [he] at hq
      cases hq
      exact hy
  · rw [take_push he, cntRow_push _ h0 h1]
    exact (own_setN O p.at_.toNat _ (by omega)).kp (ex := []) (Kp.refl [] _).drew (fun x hx e => by cases hx)
  · intro hc j hj
    rw [take_push he, cnt_push]
    split
    · next e =>
      have : j = p.at_.toNat := by omega
      subst this
      exact hc
    · have := h.cap j hj
      omega
theorem cnt_cell {w W : World} {b : Nat} {s : St} {k : Nat} {p : Pt} (he : (s.gone ++ s.dead)[k]? = some p) (h0 : 0 ≤ p.at_) (h1 : p.at_ < 64)
    (O : Own encN 1 3 w.heap.size W (.slice (some ⟨b, 0, none⟩) 64 64) (cntRow ((s.gone ++ s.dead).take (k + 1)))) :
    W.cell? ⟨b, p.at_.toNat, none⟩ = some (.int .i64 (cnt ((s.gone ++ s.dead).take k) p.at_.toNat + 1)) := by
  obtain ⟨bq, oq, hq1, hq2, hq3⟩ := num_at (k := p.at_.toNat) (own_rdG O).1 (by rw [cntRow_len]; omega)
  cases hq1
  rw [Nat.zero_add, cntRow_get _ (by omega), take_push he, cnt_push, if_pos (by omega)] at hq3
  exact hq3
theorem scnt_bad {s : St} {k : Nat} {p : Pt} (he : (s.gone ++ s.dead)[k]? = some p) (h : goneB (topAt s k) p = false) : storeB s = false := by
  unfold topAt at h
  by_cases hk : k < s.gone.length
  · rw [if_pos hk] at h
    rw [List.getElem?_append_left hk] at he
    exact store_gone (List.mem_of_getElem? he) h
  · rw [if_neg hk] at h
    rw [List.getElem?_append_right (by omega)] at he
    exact store_dead (List.mem_of_getElem? he) h
theorem scnt_over {s : St} {k : Nat} {j : Nat} (hj : j < 64) (h : s.refs.getD j 0 < cnt ((s.gone ++ s.dead).take k) j) : storeB s = false := by
  refine store_owed hj ?_
  have := cnt_app ((s.gone ++ s.dead).take k) ((s.gone ++ s.dead).drop k) j
  rw [List.take_append_drop] at this
  omega
theorem scnt_end {w : World} {b : Nat} {cs : Array Value} {s : St} {wr : World} (hd : headB s = true) (hr : ∀ i, i < 64 → rowB s i = true) (h : SCnt w b cs s (s.gone.length + s.dead.length) wr) : storeB s = true := by
  refine store_yes hd hr ?_ ?_ ?_
  · intro p hp
    obtain ⟨i, hi, he⟩ := List.mem_iff_getElem.1 hp
    have := h.ok i p (by omega) (by rw [List.getElem?_append_left hi, List.getElem?_eq_getElem hi, he])
    rw [topAt, if_pos hi] at this
    exact this
  · intro p hp
    obtain ⟨i, hi, he⟩ := List.mem_iff_getElem.1 hp
    have := h.ok (s.gone.length + i) p (by omega) (by rw [List.getElem?_append_right (by omega), Nat.add_sub_cancel_left, List.getElem?_eq_getElem hi, he])
    rw [topAt, if_neg (by omega)] at this
    exact this
  · intro j hj
    have := h.cap j hj
    rw [List.take_of_length_le (by rw [List.length_append]; exact Nat.le_refl _)] at this
    exact this

set_option maxHeartbeats 8000000 in
theorem specStoreOk_any (w : World) (x : SA) (s : St) (h : SRd w x s) (mG : x.nG ≤ 1048576) (mD : x.nD ≤ 1048576) :
    Calls Try.prog 32 #[x.v s.txg s.keep s.same] w fun e w' => e = .returned (.bool (storeB s)) ∧ Below w.heap.size w w' := by
  have HK := Lib.hid (show StK w x s from ⟨h, mG, mD⟩)
  have HSP := Lib.hid HK.out.sp2
  have hnR := h.lR
  have hnA := h.lA
  have hnB := h.lB
  have hnG := h.lG
  have hnD := h.lD
  clear h
  obtain ⟨R, nR, cR, A, nA, cA, B, nB, cB, G, nG, cG, D, nD, cD⟩ := x
  unfold SA.v
  dsimp only at *
  subst hnG
  subst hnD
  have HBw := Lib.hid (below_alloc (Below.refl w.heap.size w) (.cells #[.slice R nR cR, .slice A nA cA, .slice B nB cB, .int .i64 s.txg, .slice G s.gone.length cG, .int .i64 s.keep, .slice D s.dead.length cD, .bool s.same] 47))
  have BXw := Lib.hid (box_new w #[.slice R nR cR, .slice A nA cA, .slice B nB cB, .int .i64 s.txg, .slice G s.gone.length cG, .int .i64 s.keep, .slice D s.dead.length cD, .bool s.same] 47)
  have bx := BXw.out.cell
  have bl := BXw.out.lt
  by_cases h1 : s.rows.length = 64
  · have e1 : nR = 64 := by omega
    subst e1
    cases h2 : spaceB s.refs s.last
    · have E := Lib.hid (store_head (head_sp h2))
      rw [h2] at HSP
      clear h2 hnA hnB
      go_enter Try.func32, Try.ntmps32
      go_wp2_with fail
      refine Calls.mono (HSP.out _ HBw.out) ?_
      rintro e w2 ⟨rfl, hww2⟩
      have HB2 := Lib.hid (below_below HBw.out hww2)
      clear hww2
      go_wp2_with fail
      go_ret
      exact ⟨ret_bool E.out.symm, HB2.out⟩
    · obtain ⟨hA64, hB64⟩ := space_lens h2
      have e2 : nA = 64 := by omega
      have e3 : nB = 64 := by omega
      subst e2
      subst e3
      rw [h2] at HSP
      cases h3 : inB s.txg 1 900
      · have E := Lib.hid (store_head (head_txg h3))
        clear h2 hnA hnB
        go_enter Try.func32, Try.ntmps32
        go_wp2_with fail
        refine Calls.mono (HSP.out _ HBw.out) ?_
        rintro e w2 ⟨rfl, hww2⟩
        have HB2 := Lib.hid (below_below HBw.out hww2)
        have BX2 := Lib.hid (BXw.out.below hww2)
        have hw2 := BX2.out.lt
        have bx2 := BX2.out.cell
        clear hww2 bx bl
        go_wp2_with fail
        refine Calls.mono (l6In_any _ _ _ _) ?_
        rintro e w3 ⟨rfl, rfl⟩
        go_wp2_with fail
        go_ret
        exact ⟨ret_bool E.out.symm, HB2.out⟩
      · obtain ⟨ht1, ht2⟩ := inB_true h3
        cases h4 : inB s.keep 0 (s.txg - 1)
        · have E := Lib.hid (store_head (head_keep h4))
          clear h2 hnA hnB
          go_enter Try.func32, Try.ntmps32
          go_wp2_with fail
          refine Calls.mono (HSP.out _ HBw.out) ?_
          rintro e w2 ⟨rfl, hww2⟩
          have HB2 := Lib.hid (below_below HBw.out hww2)
          have BX2 := Lib.hid (BXw.out.below hww2)
          have hw2 := BX2.out.lt
          have bx2 := BX2.out.cell
          clear hww2 bx bl
          go_wp2_with fail
          refine Calls.mono (l6In_any _ _ _ _) ?_
          rintro e w3 ⟨rfl, rfl⟩
          go_wp2_with fail
          refine Calls.mono (l6In_any _ _ _ _) ?_
          rintro e w3 ⟨rfl, rfl⟩
          go_wp2_with fail
          go_ret
          exact ⟨ret_bool E.out.symm, HB2.out⟩
        · have HD := Lib.hid (head_yes h1 h2 h3 h4)
          have HNN := Lib.hid (fun j (hj : j < 64) => space_nn h2 hj)
          obtain ⟨hk1, hk2⟩ := inB_true h4
          clear h2 hnA hnB
          go_enter Try.func32, Try.ntmps32
          go_wp2_with fail
          refine Calls.mono (HSP.out _ HBw.out) ?_
          rintro e w2 ⟨rfl, hww2⟩
          have HB2 := Lib.hid (below_below HBw.out hww2)
          have BX2 := Lib.hid (BXw.out.below hww2)
          have hw2 := BX2.out.lt
          have bx2 := BX2.out.cell
          clear hww2 bx bl
          go_wp2_with fail
          refine Calls.mono (l6In_any _ _ _ _) ?_
          rintro e w3 ⟨rfl, rfl⟩
          go_wp2_with fail
          refine Calls.mono (l6In_any _ _ _ _) ?_
          rintro e w3 ⟨rfl, rfl⟩
          clear HSP
          have HRS := Lib.hid (fun W (hB : Below w.heap.size w W) => HK.out.rd.below hB)
          have HRW := Lib.hid (fun W (hB : Below w.heap.size w W) k (hk : k < 64) => str_at (k := k) (HRS.out W hB).rows (by rw [h1]; exact hk))
          have HAW := Lib.hid (fun W (hB : Below w.heap.size w W) k (hk : k < 64) => num_at (k := k) (HRS.out W hB).refs (by rw [hA64]; exact hk))
          have HLW := Lib.hid (fun W (hB : Below w.heap.size w W) k (hk : k < 64) => num_at (k := k) (HRS.out W hB).last (by rw [hB64]; exact hk))
          have HNO := Lib.hid (fun k (hk : k < 64) (h : ((s.rows.getD k ⟨#[]⟩).toList == (⟨#[]⟩ : ByteArray).toList) ≠ (s.refs.getD k 0 == 0)) => store_row (s := s) (k := k) hk (row_no (.inr h)))
          have HNS := Lib.hid (fun k (hk : k < 64) (h : ¬ ((s.rows.getD k ⟨#[]⟩).size ≤ 128 ∧ s.last.getD k 0 ≤ s.txg)) => store_row (s := s) (k := k) hk (row_no (.inl h)))
          have HYE := Lib.hid (fun k (hk : k < 64) (h1 : (s.rows.getD k ⟨#[]⟩).size ≤ 128) (h3 : s.last.getD k 0 ≤ s.txg) (h2 : ((s.rows.getD k ⟨#[]⟩).toList == (⟨#[]⟩ : ByteArray).toList) = (s.refs.getD k 0 == 0)) => row_yes (s := s) (i := k) h1 h3 h2)
          obtain ⟨bR, oR, rfl, _, _⟩ := HRW.out w2 HB2.out 0 (by omega)
          obtain ⟨bA, oA, rfl, _, _⟩ := HAW.out w2 HB2.out 0 (by omega)
          obtain ⟨bL, oL, rfl, _, _⟩ := HLW.out w2 HB2.out 0 (by omega)
          clear hA64 hB64 h1
          go_wp2_with fail
          go_loopw [3] (fun i wr => ∃ k : Nat, k ≤ 64 ∧ i = .int .i64 k ∧ Hid (∀ i, i < k → rowB s i = true) ∧ Hid (Below w.heap.size w wr) ∧ Hid (BoxAt wr w.heap.size #[.slice (some ⟨bR, oR, none⟩) 64 cR, .slice (some ⟨bA, oA, none⟩) 64 cA, .slice (some ⟨bL, oL, none⟩) 64 cB, .int .i64 s.txg, .slice G s.gone.length cG, .int .i64 s.keep, .slice D s.dead.length cD, .bool s.same] 47)) (fun i _ => 64 - (intOf i).toNat)
          case atStart => exact ⟨0, Nat.zero_le _, rfl, Lib.hid (fun i hi => by omega), HB2, BX2⟩
          case round =>
            obtain ⟨k, hk, rfl, HO, HB, BX⟩ := hrel
            have bx := BX.out.cell
            have bl := BX.out.lt
            by_cases hlt : k < 64
            · obtain ⟨_, _, hq1, hb1, c1⟩ := HRW.out wr HB.out k hlt
              obtain ⟨_, _, hq2, hb2, c2⟩ := HAW.out wr HB.out k hlt
              obtain ⟨_, _, hq3, hb3, c3⟩ := HLW.out wr HB.out k hlt
              cases hq1
              cases hq2
              cases hq3
              have HNO2 := Lib.hid (HNO.out k hlt)
              have HNS2 := Lib.hid (HNS.out k hlt)
              have HYE2 := Lib.hid (HYE.out k hlt)
              generalize s.rows.getD k ⟨#[]⟩ = row at *
              generalize s.refs.getD k 0 = n at *
              generalize s.last.getD k 0 = la at *
              by_cases hs : row.size ≤ 128
              · have hsb : decide ((128 : Int) < (row.size : Int)) = false := decide_eq_false (by omega)
                by_cases hm : (row.toList == (⟨#[]⟩ : ByteArray).toList) = (n == 0)
                · obtain ⟨eb, heb⟩ : ∃ eb, (n == 0) = eb := ⟨_, rfl⟩
                  have hm1 : (row.toList == (⟨#[]⟩ : ByteArray).toList) = eb := hm.trans heb
                  have hm2 : row.toList.isEmpty = eb := (emp_eq _).symm.trans hm1
                  by_cases hl : la ≤ s.txg
                  · have hlb : decide (s.txg < la) = false := decide_eq_false (by omega)
                    have HY := Lib.hid (HYE2.out hs hl hm)
                    have HO2 := Lib.hid (show ∀ i, i < k + 1 → rowB s i = true from fun i hi => by
                      rcases Nat.lt_or_ge i k with h' | h'
                      · exact HO.out i h'
                      · have : i = k := by omega
                        subst this; exact HY.out)
                    clear HNO2 HNS2 HYE2 hm
                    cases eb
                    all_goals
                      go_wp2_with fail
                      refine wp_quiet_b (by kernel_rfl) (by kernel_rfl) (fun hgrow => ?_)
                      repeat (go_big_quiet_step (fail))
                      refine wpQuiet_nil ?_
                      intro w3 hww3
                      replace hww3 := below_of_regrown hww3
                      clear hgrow
                      have HB3 := Lib.hid (below_below HB.out hww3)
                      have BX3 := Lib.hid (BX.out.below hww3)
                      clear hww3
                      go_wp2_with fail
                      go_roundw
                      case rel => exact ⟨k + 1, by omega, by go_num, HO2, HB3, BX3⟩
                      case measure => simp [intOf]; omega
                  · have hlb : decide (s.txg < la) = true := decide_eq_true (by omega)
                    have E := Lib.hid (HNS2.out (fun h => hl h.2))
                    clear HNO2 HNS2 HYE2 hm
                    cases eb
                    all_goals
                      go_wp2_with fail
                      refine wp_quiet_b (by kernel_rfl) (by kernel_rfl) (fun hgrow => ?_)
                      repeat (go_big_quiet_step (fail))
                      refine wpQuiet_nil ?_
                      intro w3 hww3
                      replace hww3 := below_of_regrown hww3
                      clear hgrow
                      have HB3 := Lib.hid (below_below HB.out hww3)
                      clear hww3
                      go_wp2_with fail
                      go_ret
                      exact ⟨ret_bool E.out.symm, HB3.out⟩
                · have E := Lib.hid (HNO2.out hm)
                  obtain ⟨eb, heb⟩ : ∃ eb, (n == 0) = eb := ⟨_, rfl⟩
                  have hm1 : (row.toList == (⟨#[]⟩ : ByteArray).toList) = !eb := by
                    rw [heb] at hm
                    cases eb
                    · simpa using hm
                    · simpa using hm
                  have hm2 : row.toList.isEmpty = !eb := (emp_eq _).symm.trans hm1
                  clear HNO2 HNS2 HYE2 hm
                  cases eb
                  all_goals
                    simp only [Bool.not_true, Bool.not_false] at hm1 hm2
                    go_wp2_with fail
                    refine wp_quiet_b (by kernel_rfl) (by kernel_rfl) (fun hgrow => ?_)
                    repeat (go_big_quiet_step (fail))
                    refine wpQuiet_nil ?_
                    intro w3 hww3
                    replace hww3 := below_of_regrown hww3
                    clear hgrow
                    have HB3 := Lib.hid (below_below HB.out hww3)
                    clear hww3
                    go_wp2_with fail
                    go_ret
                    exact ⟨ret_bool E.out.symm, HB3.out⟩
              · have hsb : decide ((128 : Int) < (row.size : Int)) = true := decide_eq_true (by omega)
                have E := Lib.hid (HNS2.out (fun h => hs h.1))
                clear HNO2 HNS2 HYE2
                go_wp2_with fail
                refine wp_quiet_b (by kernel_rfl) (by kernel_rfl) (fun hgrow => ?_)
                repeat (go_big_quiet_step (fail))
                refine wpQuiet_nil ?_
                intro w3 hww3
                replace hww3 := below_of_regrown hww3
                clear hgrow
                have HB3 := Lib.hid (below_below HB.out hww3)
                clear hww3
                go_wp2_with fail
                go_ret
                exact ⟨ret_bool E.out.symm, HB3.out⟩
            · obtain rfl : k = 64 := by omega
              clear HRW HLW HNO HNS HYE
              obtain ⟨wz, rfl⟩ : ∃ wz, wz = wr := ⟨wr, rfl⟩
              have hmk : ∀ W : World, (Instr.makeSlice 25 (.int .i64 64) (.int .i64 64)).run Try.prog W = .ok (.slice (some ⟨W.heap.size, 0, none⟩) 64 64) (W.alloc (zerosN 64)) := make_N 64 (by omega)
              have hB3 := below_alloc (Below.refl wz.heap.size wz) (zerosN 64)
              have S0 := Lib.hid (SCnt.mk (w := w) (b := wz.heap.size) (s := s) (k := 0) (fun i p hi => by omega) (by rw [List.take_zero, cntRow_nil]; exact own_zerosN (n := 64) (by omega) (by omega) (hp_new rfl)) (fun j hj => by rw [List.take_zero, cnt_nil]; exact HNN.out j hj) (BX.out.below hB3) (below_below HB.out hB3))
              clear hB3
              go_wp2_with fail
              go_loopw [5] (fun i wr => ∃ k : Nat, k ≤ s.gone.length + s.dead.length ∧ i = .int .i64 k ∧ Hid (SCnt w wz.heap.size #[.slice (some ⟨bR, oR, none⟩) 64 cR, .slice (some ⟨bA, oA, none⟩) 64 cA, .slice (some ⟨bL, oL, none⟩) 64 cB, .int .i64 s.txg, .slice G s.gone.length cG, .int .i64 s.keep, .slice D s.dead.length cD, .bool s.same] s k wr)) (fun i _ => s.gone.length + s.dead.length - (intOf i).toNat)
              case atStart => exact ⟨0, Nat.zero_le _, rfl, S0⟩
              case round =>
                clear S0 BX BX2 bx HB2 hw2
                obtain ⟨k, hk, rfl, HC⟩ := hrel
                have bxq := HC.out.box.cell
                have blq := HC.out.box.lt
                by_cases hlt : k < s.gone.length + s.dead.length
                · by_cases hg : k < s.gone.length
                  · obtain ⟨b1, off, p, rfl, hb, he, c0, c1, c2, c3, c4⟩ := (HRS.out wr HC.out.bel).gone.ptr hg
                    have HT := Lib.hid (show topAt s k = s.txg - 1 by rw [topAt, if_pos hg])
                    rw [← List.getElem?_append_left (l₂ := s.dead) hg] at he
                    have HE := Lib.hid he
                    have HPO := Lib.hid (specPtrOk_any p)
                    have HH := Lib.hid (specPtrHole_any p)
                    have HPV := Lib.hid (show p.v = .agg #[.int .i64 p.at_, .int .i64 p.birth, .int .i64 p.size, .int .i64 p.sum, .int .i64 p.level] from rfl)
                    rw [HPV.out] at HPO HH
                    clear he
                    have HCp := Lib.hid (HC.out.below (below_alloc (Below.refl wr.heap.size wr) (.cells #[.int .i64 p.at_, .int .i64 p.birth, .int .i64 p.size, .int .i64 p.sum, .int .i64 p.level] 41)))
                    have BXp := Lib.hid (box_new wr #[.int .i64 p.at_, .int .i64 p.birth, .int .i64 p.size, .int .i64 p.sum, .int .i64 p.level] 41)
                    cases hok : ptrB p
                    · rw [hok] at HPO
                      have E := Lib.hid (scnt_bad HE.out (gone_no (.inl hok)))
                      clear hok
                      go_wp2_with fail
                      refine Calls.mono (HPO.out _) ?_
                      rintro e w2 ⟨rfl, hB⟩
                      have C2 := Lib.hid (HCp.out.below hB)
                      clear hB
                      go_wp2_with fail
                      go_ret
                      exact ⟨ret_bool E.out.symm, C2.out.bel⟩
                    · rw [hok] at HPO
                      cases hho : holeB p
                      · rw [hho] at HH
                        obtain ⟨hp1, hp2, hp3, hp4⟩ := ptr_in hok hho
                        by_cases hbt : p.birth ≤ s.txg - 1
                        · have HY := Lib.hid (show goneB (topAt s k) p = true by rw [HT.out]; exact gone_yes hok hho hbt)
                          clear hok hho
                          go_wp2_with fail
                          refine Calls.mono (HPO.out _) ?_
                          rintro e w2 ⟨rfl, hB⟩
                          have C2 := Lib.hid (HCp.out.below hB)
                          have BX2 := Lib.hid (BXp.out.below hB)
                          have bx2 := BX2.out.cell
                          clear hB
                          go_wp2_with fail
                          refine Calls.mono (HH.out _) ?_
                          rintro e w3 ⟨rfl, hB⟩
                          have C3 := Lib.hid (C2.out.below hB)
                          have BX3 := Lib.hid (BX2.out.below hB)
                          have bx3 := BX3.out.cell
                          have bl3 := BX3.out.lt
                          have s3 := C3.out.box.cell
                          have sl3 := C3.out.box.lt
                          have hc3 : w3.cell? ⟨wz.heap.size, p.at_.toNat, none⟩ = some (.int .i64 (cnt ((s.gone ++ s.dead).take k) p.at_.toNat)) := by
                            obtain ⟨bq, oq, hq1, hq2, hq3⟩ := num_at (k := p.at_.toNat) (own_rdG C3.out.own).1 (by rw [cntRow_len]; omega)
                            cases hq1
                            rw [Nat.zero_add, cntRow_get _ (by omega)] at hq3
                            exact hq3
                          have hf3 : w3.frozen? ⟨wz.heap.size, p.at_.toNat, none⟩ = false := own_frozG C3.out.own _
                          have hzl : wz.heap.size < wr.heap.size := (own_in HC.out.own wz.heap.size (by simp [exOf', Value.ownBlock])).2
                          have hzl3 : wz.heap.size < w3.heap.size := (own_in C3.out.own wz.heap.size (by simp [exOf', Value.ownBlock])).2
                          have hp0 : (0 : Int) ≤ p.at_ := by omega
                          have hp64 : p.at_ < 64 := by omega
                          have HN := Lib.hid (scnt_step HC.out HE.out HY.out hp0 hp64 C3.out.own)
                          have HOV := Lib.hid (fun h => scnt_over (s := s) (k := k + 1) (j := p.at_.toNat) (by omega) h)
                          rw [take_push HE.out, cnt_push, if_pos (show p.at_ = ((p.at_.toNat : Nat) : Int) by omega)] at HOV
                          have HC4 := Lib.hid (fun W hO => cnt_cell (W := W) (w := w) (b := wz.heap.size) HE.out hp0 hp64 hO)
                          have hcb : 0 ≤ cnt ((s.gone ++ s.dead).take k) p.at_.toNat ∧ cnt ((s.gone ++ s.dead).take k) p.at_.toNat ≤ 4194304 := by
                            refine ⟨cnt_nn _ _, ?_⟩
                            have h1 := cnt_le ((s.gone ++ s.dead).take k) p.at_.toNat
                            rw [List.length_take] at h1
                            omega
                          obtain ⟨hcb0, hcb1⟩ := hcb
                          generalize cnt ((s.gone ++ s.dead).take k) p.at_.toNat = cv at *
                          have K4 := ((Kp.refl [wz.heap.size] w3).setCell (p := ⟨wz.heap.size, p.at_.toNat, none⟩) (.inl (by simp)) (.int .i64 (cv + 1))).drew
                          obtain ⟨w4, hw4⟩ : ∃ w4, w4 = (w3.setCell ⟨wz.heap.size, p.at_.toNat, none⟩ (.int .i64 (cv + 1))).drew := ⟨_, rfl⟩
                          rw [← hw4] at HN K4
                          have BX4 := Lib.hid (BX3.out.kp K4 (by simp; omega))
                          have S4 := Lib.hid (C3.out.box.kp K4 (by simp; omega))
                          have HB4 := Lib.hid (below_kp C3.out.bel K4 (fun x hx => by simp at hx; omega))
                          clear bxq bx2 hB K4
                          go_wp2_with fail
                          go_still_tail 10, (by kernel_rfl)
                          go_wp2_with fail
                          rw [← hw4]
                          have bx4 := BX4.out.cell
                          have bl4 := BX4.out.lt
                          have s4 := S4.out.cell
                          have sl4 := S4.out.lt
                          have hzl4 : wz.heap.size < w4.heap.size := (own_in HN.out.2.1 wz.heap.size (by simp [exOf', Value.ownBlock])).2
                          obtain ⟨bq, oq, hq1, hb4, hr4⟩ := HAW.out w4 HB4.out p.at_.toNat (by omega)
                          cases hq1
                          have hc4 : w4.cell? ⟨wz.heap.size, p.at_.toNat, none⟩ = some (.int .i64 (cv + 1)) := HC4.out w4 HN.out.2.1
                          generalize s.refs.getD p.at_.toNat 0 = n at *
                          clear hw4 bx3 s3 hc3 hf3
                          by_cases hcn : cv + 1 ≤ n
                          · have hcd : decide (n < cv + 1) = false := decide_eq_false (by omega)
                            have HC2 := Lib.hid (HN.out.2.2 hcn)
                            refine wp_quiet_b (by kernel_rfl) (by kernel_rfl) (fun hgrow => ?_)
                            repeat (go_big_quiet_step (fail))
                            refine wpQuiet_nil ?_
                            intro w5 hww5
                            replace hww5 := below_of_regrown hww5
                            clear hgrow
                            have C5 := Lib.hid (SCnt.mk HN.out.1 (HN.out.2.1.below hww5) HC2.out (S4.out.below hww5) (below_below HB4.out hww5))
                            clear hww5
                            go_wp2_with fail
                            go_roundw
                            case rel =>
                              repeat apply Exists.intro
                              refine ⟨?_, ?_⟩
                              rotate_left 1
                              · repeat' apply And.intro
                                all_goals rfl
                              · exact ⟨k + 1, by omega, by go_num, C5⟩
                            case measure => simp [intOf]; omega
                          · have hcd : decide (n < cv + 1) = true := decide_eq_true (by omega)
                            have E := Lib.hid (HOV.out (by omega))
                            refine wp_quiet_b (by kernel_rfl) (by kernel_rfl) (fun hgrow => ?_)
                            repeat (go_big_quiet_step (fail))
                            refine wpQuiet_nil ?_
                            intro w5 hww5
                            replace hww5 := below_of_regrown hww5
                            clear hgrow
                            have HB5 := Lib.hid (below_below HB4.out hww5)
                            clear hww5
                            go_wp2_with fail
                            go_ret
                            exact ⟨ret_bool E.out.symm, HB5.out⟩
                        · have E := Lib.hid (scnt_bad HE.out (gone_no (.inr (.inr (by rw [HT.out]; omega)))))
                          clear hok hho
                          go_wp2_with fail
                          refine Calls.mono (HPO.out _) ?_
                          rintro e w2 ⟨rfl, hB⟩
                          have C2 := Lib.hid (HCp.out.below hB)
                          have BX2 := Lib.hid (BXp.out.below hB)
                          have bx2 := BX2.out.cell
                          clear hB
                          go_wp2_with fail
                          refine Calls.mono (HH.out _) ?_
                          rintro e w3 ⟨rfl, hB⟩
                          have C3 := Lib.hid (C2.out.below hB)
                          have BX3 := Lib.hid (BX2.out.below hB)
                          have bx3 := BX3.out.cell
                          clear hB bx2 bxq
                          go_wp2_with fail
                          go_ret
                          exact ⟨ret_bool E.out.symm, C3.out.bel⟩
                      · rw [hho] at HH
                        have E := Lib.hid (scnt_bad HE.out (gone_no (.inr (.inl hho))))
                        clear hok hho
                        go_wp2_with fail
                        refine Calls.mono (HPO.out _) ?_
                        rintro e w2 ⟨rfl, hB⟩
                        have C2 := Lib.hid (HCp.out.below hB)
                        have BX2 := Lib.hid (BXp.out.below hB)
                        have bx2 := BX2.out.cell
                        clear hB
                        go_wp2_with fail
                        refine Calls.mono (HH.out _) ?_
                        rintro e w3 ⟨rfl, hB⟩
                        have C3 := Lib.hid (C2.out.below hB)
                        clear hB bx2 bxq
                        go_wp2_with fail
                        go_ret
                        exact ⟨ret_bool E.out.symm, C3.out.bel⟩
                  · obtain ⟨j, hj⟩ : ∃ j, k = s.gone.length + j := ⟨k - s.gone.length, by omega⟩
                    obtain ⟨b1, off, p, rfl, hb, he, c0, c1, c2, c3, c4⟩ := (HRS.out wr HC.out.bel).dead.ptr (k := j) (by omega)
                    have HT := Lib.hid (show topAt s k = s.keep by rw [topAt, if_neg hg])
                    replace he : (s.gone ++ s.dead)[k]? = some p := by rw [List.getElem?_append_right (by omega), show k - s.gone.length = j by omega]; exact he
                    subst hj
                    have hj0 : ((s.gone.length + j : Nat) : Int) - (s.gone.length : Int) = (j : Int) := by omega
                    have HE := Lib.hid he
                    have HPO := Lib.hid (specPtrOk_any p)
                    have HH := Lib.hid (specPtrHole_any p)
                    have HPV := Lib.hid (show p.v = .agg #[.int .i64 p.at_, .int .i64 p.birth, .int .i64 p.size, .int .i64 p.sum, .int .i64 p.level] from rfl)
                    rw [HPV.out] at HPO HH
                    clear he
                    have HCp := Lib.hid (HC.out.below (below_alloc (Below.refl wr.heap.size wr) (.cells #[.int .i64 p.at_, .int .i64 p.birth, .int .i64 p.size, .int .i64 p.sum, .int .i64 p.level] 41)))
                    have BXp := Lib.hid (box_new wr #[.int .i64 p.at_, .int .i64 p.birth, .int .i64 p.size, .int .i64 p.sum, .int .i64 p.level] 41)
                    cases hok : ptrB p
                    · rw [hok] at HPO
                      have E := Lib.hid (scnt_bad HE.out (gone_no (.inl hok)))
                      clear hok
                      go_wp2_with fail
                      refine Calls.mono (HPO.out _) ?_
                      rintro e w2 ⟨rfl, hB⟩
                      have C2 := Lib.hid (HCp.out.below hB)
                      clear hB
                      go_wp2_with fail
                      go_ret
                      exact ⟨ret_bool E.out.symm, C2.out.bel⟩
                    · rw [hok] at HPO
                      cases hho : holeB p
                      · rw [hho] at HH
                        obtain ⟨hp1, hp2, hp3, hp4⟩ := ptr_in hok hho
                        by_cases hbt : p.birth ≤ s.keep
                        · have HY := Lib.hid (show goneB (topAt s (s.gone.length + j)) p = true by rw [HT.out]; exact gone_yes hok hho hbt)
                          clear hok hho
                          go_wp2_with fail
                          refine Calls.mono (HPO.out _) ?_
                          rintro e w2 ⟨rfl, hB⟩
                          have C2 := Lib.hid (HCp.out.below hB)
                          have BX2 := Lib.hid (BXp.out.below hB)
                          have bx2 := BX2.out.cell
                          clear hB
                          go_wp2_with fail
                          refine Calls.mono (HH.out _) ?_
                          rintro e w3 ⟨rfl, hB⟩
                          have C3 := Lib.hid (C2.out.below hB)
                          have BX3 := Lib.hid (BX2.out.below hB)
                          have bx3 := BX3.out.cell
                          have bl3 := BX3.out.lt
                          have s3 := C3.out.box.cell
                          have sl3 := C3.out.box.lt
                          have hc3 : w3.cell? ⟨wz.heap.size, p.at_.toNat, none⟩ = some (.int .i64 (cnt ((s.gone ++ s.dead).take (s.gone.length + j)) p.at_.toNat)) := by
                            obtain ⟨bq, oq, hq1, hq2, hq3⟩ := num_at (k := p.at_.toNat) (own_rdG C3.out.own).1 (by rw [cntRow_len]; omega)
                            cases hq1
                            rw [Nat.zero_add, cntRow_get _ (by omega)] at hq3
                            exact hq3
                          have hf3 : w3.frozen? ⟨wz.heap.size, p.at_.toNat, none⟩ = false := own_frozG C3.out.own _
                          have hzl : wz.heap.size < wr.heap.size := (own_in HC.out.own wz.heap.size (by simp [exOf', Value.ownBlock])).2
                          have hzl3 : wz.heap.size < w3.heap.size := (own_in C3.out.own wz.heap.size (by simp [exOf', Value.ownBlock])).2
                          have hp0 : (0 : Int) ≤ p.at_ := by omega
                          have hp64 : p.at_ < 64 := by omega
                          have HN := Lib.hid (scnt_step HC.out HE.out HY.out hp0 hp64 C3.out.own)
                          have HOV := Lib.hid (fun h => scnt_over (s := s) (k := s.gone.length + j + 1) (j := p.at_.toNat) (by omega) h)
                          rw [take_push HE.out, cnt_push, if_pos (show p.at_ = ((p.at_.toNat : Nat) : Int) by omega)] at HOV
                          have HC4 := Lib.hid (fun W hO => cnt_cell (W := W) (w := w) (b := wz.heap.size) HE.out hp0 hp64 hO)
                          have hcb : 0 ≤ cnt ((s.gone ++ s.dead).take (s.gone.length + j)) p.at_.toNat ∧ cnt ((s.gone ++ s.dead).take (s.gone.length + j)) p.at_.toNat ≤ 4194304 := by
                            refine ⟨cnt_nn _ _, ?_⟩
                            have h1 := cnt_le ((s.gone ++ s.dead).take (s.gone.length + j)) p.at_.toNat
                            rw [List.length_take] at h1
                            omega
                          obtain ⟨hcb0, hcb1⟩ := hcb
                          generalize cnt ((s.gone ++ s.dead).take (s.gone.length + j)) p.at_.toNat = cv at *
                          have K4 := ((Kp.refl [wz.heap.size] w3).setCell (p := ⟨wz.heap.size, p.at_.toNat, none⟩) (.inl (by simp)) (.int .i64 (cv + 1))).drew
                          obtain ⟨w4, hw4⟩ : ∃ w4, w4 = (w3.setCell ⟨wz.heap.size, p.at_.toNat, none⟩ (.int .i64 (cv + 1))).drew := ⟨_, rfl⟩
                          rw [← hw4] at HN K4
                          have BX4 := Lib.hid (BX3.out.kp K4 (by simp; omega))
                          have S4 := Lib.hid (C3.out.box.kp K4 (by simp; omega))
                          have HB4 := Lib.hid (below_kp C3.out.bel K4 (fun x hx => by simp at hx; omega))
                          clear bxq bx2 hB K4
                          go_wp2_with fail
                          go_still_tail 10, (by kernel_rfl)
                          go_wp2_with fail
                          rw [← hw4]
                          have bx4 := BX4.out.cell
                          have bl4 := BX4.out.lt
                          have s4 := S4.out.cell
                          have sl4 := S4.out.lt
                          have hzl4 : wz.heap.size < w4.heap.size := (own_in HN.out.2.1 wz.heap.size (by simp [exOf', Value.ownBlock])).2
                          obtain ⟨bq, oq, hq1, hb4, hr4⟩ := HAW.out w4 HB4.out p.at_.toNat (by omega)
                          cases hq1
                          have hc4 : w4.cell? ⟨wz.heap.size, p.at_.toNat, none⟩ = some (.int .i64 (cv + 1)) := HC4.out w4 HN.out.2.1
                          generalize s.refs.getD p.at_.toNat 0 = n at *
                          clear hw4 bx3 s3 hc3 hf3
                          by_cases hcn : cv + 1 ≤ n
                          · have hcd : decide (n < cv + 1) = false := decide_eq_false (by omega)
                            have HC2 := Lib.hid (HN.out.2.2 hcn)
                            refine wp_quiet_b (by kernel_rfl) (by kernel_rfl) (fun hgrow => ?_)
                            repeat (go_big_quiet_step (fail))
                            refine wpQuiet_nil ?_
                            intro w5 hww5
                            replace hww5 := below_of_regrown hww5
                            clear hgrow
                            have C5 := Lib.hid (SCnt.mk HN.out.1 (HN.out.2.1.below hww5) HC2.out (S4.out.below hww5) (below_below HB4.out hww5))
                            clear hww5
                            go_wp2_with fail
                            go_roundw
                            case rel =>
                              repeat apply Exists.intro
                              refine ⟨?_, ?_⟩
                              rotate_left 1
                              · repeat' apply And.intro
                                all_goals rfl
                              · exact ⟨s.gone.length + j + 1, by omega, by go_num, C5⟩
                            case measure => simp [intOf]; omega
                          · have hcd : decide (n < cv + 1) = true := decide_eq_true (by omega)
                            have E := Lib.hid (HOV.out (by omega))
                            refine wp_quiet_b (by kernel_rfl) (by kernel_rfl) (fun hgrow => ?_)
                            repeat (go_big_quiet_step (fail))
                            refine wpQuiet_nil ?_
                            intro w5 hww5
                            replace hww5 := below_of_regrown hww5
                            clear hgrow
                            have HB5 := Lib.hid (below_below HB4.out hww5)
                            clear hww5
                            go_wp2_with fail
                            go_ret
                            exact ⟨ret_bool E.out.symm, HB5.out⟩
                        · have E := Lib.hid (scnt_bad HE.out (gone_no (.inr (.inr (by rw [HT.out]; omega)))))
                          clear hok hho
                          go_wp2_with fail
                          refine Calls.mono (HPO.out _) ?_
                          rintro e w2 ⟨rfl, hB⟩
                          have C2 := Lib.hid (HCp.out.below hB)
                          have BX2 := Lib.hid (BXp.out.below hB)
                          have bx2 := BX2.out.cell
                          clear hB
                          go_wp2_with fail
                          refine Calls.mono (HH.out _) ?_
                          rintro e w3 ⟨rfl, hB⟩
                          have C3 := Lib.hid (C2.out.below hB)
                          have BX3 := Lib.hid (BX2.out.below hB)
                          have bx3 := BX3.out.cell
                          clear hB bx2 bxq
                          go_wp2_with fail
                          go_ret
                          exact ⟨ret_bool E.out.symm, C3.out.bel⟩
                      · rw [hho] at HH
                        have E := Lib.hid (scnt_bad HE.out (gone_no (.inr (.inl hho))))
                        clear hok hho
                        go_wp2_with fail
                        refine Calls.mono (HPO.out _) ?_
                        rintro e w2 ⟨rfl, hB⟩
                        have C2 := Lib.hid (HCp.out.below hB)
                        have BX2 := Lib.hid (BXp.out.below hB)
                        have bx2 := BX2.out.cell
                        clear hB
                        go_wp2_with fail
                        refine Calls.mono (HH.out _) ?_
                        rintro e w3 ⟨rfl, hB⟩
                        have C3 := Lib.hid (C2.out.below hB)
                        clear hB bx2 bxq
                        go_wp2_with fail
                        go_ret
                        exact ⟨ret_bool E.out.symm, C3.out.bel⟩
                · obtain rfl : k = s.gone.length + s.dead.length := by omega
                  have E := Lib.hid (scnt_end HD.out HO.out HC.out)
                  go_wp2_with fail
                  go_ret
                  exact ⟨ret_bool E.out.symm, HC.out.bel⟩
  · have E := Lib.hid (store_head (head_len h1))
    have h1' : ((nR : Int) != 64) = true := by
      simp only [bne_iff_ne, ne_eq]
      omega
    clear h1 hnR hnA hnB
    go_enter Try.func32, Try.ntmps32
    go_wp2_with fail
    go_ret
    exact ⟨ret_bool E.out.symm, HBw.out⟩

end Go.Proofs.Ytomofiklodojeaa
