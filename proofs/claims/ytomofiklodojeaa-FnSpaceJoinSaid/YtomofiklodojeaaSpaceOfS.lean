/- The space that a list of pointers makes: the reference's text. -/
import Derived.Test.YtomofiklodojeaaSpaceOfI
namespace Go.Proofs.Ytomofiklodojeaa
open Go.RowKit Go.Sort
set_option maxRecDepth 100000
set_option linter.unusedVariables false
set_option linter.unusedSimpArgs false

/-- What holds at a round's head. -/
structure SpRel2 (w : World) (ps : List Pt) (b1 b2 ob : Nat) (k : Nat) (rs ls : List Int) (wr : World) : Prop where
  eq : SpAt ps k rs ls
  refs : Own encN 1 3 w.heap.size wr (.slice (some ⟨b1, 0, none⟩) 64 64) rs
  last : Own encN 1 3 w.heap.size wr (.slice (some ⟨b2, 0, none⟩) 64 64) ls
  res : BoxAt wr w.heap.size #[.slice none 0 0, .slice none 0 0] 27
  out : BoxAt wr ob #[.slice (some ⟨b1, 0, none⟩) 64 64, .slice (some ⟨b2, 0, none⟩) 64 64] 27
  bel : Below w.heap.size w wr
theorem SpRel2.below {w : World} {ps : List Pt} {b1 b2 ob k : Nat} {rs ls : List Int} {wr w' : World} (h : SpRel2 w ps b1 b2 ob k rs ls wr) (hB : Below wr.heap.size wr w') : SpRel2 w ps b1 b2 ob k rs ls w' :=
  ⟨h.eq, h.refs.below hB, h.last.below hB, h.res.below hB, h.out.below hB, below_below h.bel hB⟩

theorem noq_step {ps : List Pt} {j : Nat} {p q : Pt} (h : ∀ q ∈ ps.take j, ¬ (q.at_ = p.at_ ∧ q.birth = p.birth)) (hq : ps[j]? = some q) (hn : ¬ (q.at_ = p.at_ ∧ q.birth = p.birth)) : ∀ q ∈ ps.take (j + 1), ¬ (q.at_ = p.at_ ∧ q.birth = p.birth) := by
  intro r hr
  rw [List.take_add_one, hq] at hr
  rcases List.mem_append.1 hr with hr | hr
  · exact h r hr
  · simp at hr
    subst hr
    exact hn

theorem sp_rel_next2 {w w4 : World} {ps : List Pt} {b1 b2 ob k : Nat} {rs ls : List Int} {p : Pt} {rv lv : Int} (hs : SpAt ps (k + 1) (addR rs p) (addB' ls p)) (hr : rs.getD p.at_.toNat 0 = rv) (hl : ls.getD p.at_.toNat 0 = lv) (hne : b1 ≠ b2) (hj : p.at_.toNat < 64)
    (O1 : Own encN 1 3 w.heap.size w4 (.slice (some ⟨b1, 0, none⟩) 64 64) rs) (O2 : Own encN 1 3 w.heap.size w4 (.slice (some ⟨b2, 0, none⟩) 64 64) ls) (RES : BoxAt w4 w.heap.size #[.slice none 0 0, .slice none 0 0] 27)
    (OUT : BoxAt w4 ob #[.slice (some ⟨b1, 0, none⟩) 64 64, .slice (some ⟨b2, 0, none⟩) 64 64] 27) (hB : Below w.heap.size w w4)
    (g1 : w.heap.size < b1) (g2 : w.heap.size < b2) (n1 : ¬ ob = b1) (n2 : ¬ ob = b2) (l1 : rs.length = 64) (l2 : ls.length = 64) :
    SpRel2 w ps b1 b2 ob (k + 1) (addR rs p) (addB' ls p) ((w4.setCell ⟨b1, p.at_.toNat, none⟩ (.int .i64 (rv + 1))).drew.setCell ⟨b2, p.at_.toNat, none⟩ (.int .i64 (if lv < p.birth then p.birth else lv))).drew := by
  have hmx : (if lv < p.birth then p.birth else lv) = max lv p.birth := by
    rw [Int.max_def]
    split <;> split <;> omega
  have hK : Kp [b1, b2] w4 ((w4.setCell ⟨b1, p.at_.toNat, none⟩ (.int .i64 (rv + 1))).drew.setCell ⟨b2, p.at_.toNat, none⟩ (.int .i64 (max lv p.birth))).drew := ((((Kp.refl _ _).setCell (.inl (by simp)) _).drew).setCell (.inl (by simp)) _).drew
  rw [hmx]
  refine ⟨hs, ?_, ?_, RES.kp hK (by simp; omega), OUT.kp hK (by simp; omega), below_kp hB hK (fun x hx => by simp at hx; omega)⟩
  · have := own_other (own_setN O1 p.at_.toNat (rv + 1) hj) (o := p.at_.toNat) (u := .int .i64 (max lv p.birth)) hne
    rw [addR, hr]
    exact this
  · have := own_setN (own_other O2 (o := p.at_.toNat) (u := .int .i64 (rv + 1)) (Ne.symm hne)) p.at_.toNat (max lv p.birth) hj
    rw [addB', hl]
    exact this

set_option maxHeartbeats 1600000 in
theorem specSpaceOf_any (w : World) (A : Option Addr) (cap : Nat) (ps : List Pt) (h : RdT encP 5 w A ps) (hc : ps.length ≤ cap) (hm : cap ≤ 9223372036854775807) :
    Calls Try.prog 14 #[.slice A ps.length cap] w (SpOfPost w ps) := by
  have HR := Lib.hid h
  clear h
  go_enter Try.func14, Try.ntmps14
  go_wp2_with fail
  refine Calls.mono (specSpaceNew_any _) ?_
  rintro e w1 ⟨b1, b2, rfl, hne, hg1, hg2, hz1, hz2, hB⟩
  have hl1 := heap_lt hz1
  have hl2 := heap_lt hz2
  have RB := Lib.hid ((box_new w #[.slice none 0 0, .slice none 0 0] 27).below hB)
  have O1 := Lib.hid (own_zerosN (base := w.heap.size) (n := 64) (by simp only [World.size_alloc] at hg1; omega) (by omega) hz1)
  have O2 := Lib.hid (own_zerosN (base := w.heap.size) (n := 64) (by simp only [World.size_alloc] at hg2; omega) (by omega) hz2)
  have HB1 := Lib.hid (below_below (below_alloc (Below.refl w.heap.size w) (.cells #[.slice none 0 0, .slice none 0 0] 27)) hB)
  have hw1 : w.heap.size < w1.heap.size := RB.out.lt
  simp only [World.size_alloc] at hg1 hg2
  have hBo := below_alloc (Below.refl w1.heap.size w1) (.cells #[.slice (some ⟨b1, 0, none⟩) 64 64, .slice (some ⟨b2, 0, none⟩) 64 64] 27)
  have RL := Lib.hid (SpRel2.mk (w := w) (ps := ps) (b1 := b1) (b2 := b2) (ob := w1.heap.size) (k := 0) (spAt_start ps) (O1.out.below hBo) (O2.out.below hBo) (RB.out.below hBo) (box_new w1 _ _) (below_below HB1.out hBo))
  clear hB hz1 hz2 hBo O1 O2 RB HB1
  go_wp2_with fail
  go_loopw [5] (fun i wr => ∃ (k : Nat) (rs ls : List Int), k ≤ ps.length ∧ i = .int .i64 k ∧ Hid (SpRel2 w ps b1 b2 w1.heap.size k rs ls wr)) (fun i _ => ps.length - (intOf i).toNat)
  case atStart => exact ⟨0, _, _, Nat.zero_le _, rfl, RL⟩
  case round =>
    clear RL
    obtain ⟨k, rs, ls, hk, rfl, HL⟩ := hrel
    obtain ⟨wo, rfl⟩ : ∃ wo : World, wo = wr := ⟨_, rfl⟩
    have hkb : (k : Int) ≤ 9223372036854775807 := by omega
    have hlo := HL.out.out.lt
    have hlr := HL.out.res.lt
    by_cases hlt : k < ps.length
    · obtain ⟨b, off, p, hA, hb, he, c0, c1, c2, c3, c4⟩ := (HR.out.below HL.out.bel).ptr hlt
      have HA := Lib.hid hA
      subst hA
      have HE := Lib.hid he
      have HP := Lib.hid (specPtrOk_any p)
      have HH := Lib.hid (specPtrHole_any p)
      have HPV := Lib.hid (show p.v = .agg #[.int .i64 p.at_, .int .i64 p.birth, .int .i64 p.size, .int .i64 p.sum, .int .i64 p.level] from rfl)
      rw [HPV.out] at HP HH
      clear he
      have hBp := below_alloc (Below.refl wo.heap.size wo) (.cells #[.int .i64 p.at_, .int .i64 p.birth, .int .i64 p.size, .int .i64 p.sum, .int .i64 p.level] 41)
      have HLp := Lib.hid (HL.out.below hBp)
      have BXp := Lib.hid (box_new wo #[.int .i64 p.at_, .int .i64 p.birth, .int .i64 p.size, .int .i64 p.sum, .int .i64 p.level] 41)
      clear hBp
      cases hok : ptrB p
      · rw [hok] at HP
        have E := Lib.hid (sp_bad HL.out.eq HE.out hok)
        clear hok
        go_wp2_with fail
        refine Calls.mono (HP.out _) ?_
        rintro e w2 ⟨rfl, hB⟩
        have R2 := Lib.hid (HLp.out.below hB)
        have r2 := R2.out.res.cell
        have r2f := R2.out.res.froz
        have hl2' := R2.out.res.lt
        clear hB
        go_wp2_with fail
        refine bodyPost_ret (v := .tuple #[.agg #[.slice none 0 0, .slice none 0 0], .bool false]) (by simp [results, Try.results14, go_sem, r2]) rfl ?_
        exact spOf_end0 E.out (below_set (below_set R2.out.bel (p := ⟨w.heap.size, 0, none⟩) (Nat.le_refl _) _) (p := ⟨w.heap.size, 1, none⟩) (Nat.le_refl _) _)
      · rw [hok] at HP
        cases hho : holeB p
        · rw [hho] at HH
          obtain ⟨hp1, hp2, hp3, hp4⟩ := ptr_in hok hho
          have HND := Lib.hid (fun (hd : dupB (ps.take k) p = false) => sp_new HL.out.eq HE.out hok hho hd)
          have HDD := Lib.hid (fun (hd : dupB (ps.take k) p = true) => sp_dup HL.out.eq HE.out hok hho hd)
          have HKL := Lib.hid (show rs.length = 64 ∧ ls.length = 64 from ⟨HL.out.eq.2.1, HL.out.eq.2.2.1⟩)
          have hrb := HL.out.eq.2.2.2.1 p.at_.toNat
          have hlb := HL.out.eq.2.2.2.2 p.at_.toNat
          have hlpo : wo.heap.size < wo.heap.size + 1 := by omega
          clear hok hho
          go_wp2_with fail
          clear c0 c1 c2 c3 c4
          refine Calls.mono (HP.out _) ?_
          rintro e w2 ⟨rfl, hB⟩
          have R2 := Lib.hid (HLp.out.below hB)
          have BX2 := Lib.hid (BXp.out.below hB)
          clear hB HLp BXp
          go_wp2_with fail
          go_loopw [7] (fun x wi => ∃ j : Nat, j ≤ k ∧ x = .int .i64 j ∧ Hid (∀ q ∈ ps.take j, ¬ (q.at_ = p.at_ ∧ q.birth = p.birth)) ∧ Hid (SpRel2 w ps b1 b2 w1.heap.size k rs ls wi) ∧ Hid (BoxAt wi wo.heap.size #[.int .i64 p.at_, .int .i64 p.birth, .int .i64 p.size, .int .i64 p.sum, .int .i64 p.level] 41)) (fun x _ => k - (intOf x).toNat)
          case atStart => exact ⟨0, Nat.zero_le _, rfl, Lib.hid (fun q hq => by simp at hq), R2, BX2⟩
          case round =>
            clear R2 BX2
            obtain ⟨j, hj, rfl, HQ, R3, BX3⟩ := hrel
            have bx3 := BX3.out.cell
            by_cases hjk : j < k
            · go_wp2_with fail
              refine Calls.mono (HH.out _) ?_
              rintro e w4 ⟨rfl, hB⟩
              have R4 := Lib.hid (R3.out.below hB)
              have BX4 := Lib.hid (BX3.out.below hB)
              have bx4 := BX4.out.cell
              obtain ⟨b', off', q, hA', hb', he', c0, c1, c2, c3, c4⟩ := (HR.out.below R4.out.bel).ptr (k := j) (by omega)
              cases hA'
              have HE' := Lib.hid he'
              have hlx4 := BX4.out.lt
              clear hB bx3 he'
              by_cases hqa : q.at_ = p.at_
              · by_cases hqb : q.birth = p.birth
                · have E := Lib.hid (HDD.out (dupB_iff.2 ⟨q, by
                    have h1 := HE'.out
                    rw [← List.getElem?_take_of_lt hjk] at h1
                    exact List.mem_of_getElem? h1, hqa, hqb⟩))
                  have e1 : (q.at_ == p.at_) = true := by simpa using hqa
                  have e2 : (q.birth == p.birth) = true := by simpa using hqb
                  clear hqa hqb
                  go_wp2_with fail
                  refine wp_quiet_b (by kernel_rfl) (by kernel_rfl) (fun hgrow => ?_)
                  repeat (go_big_quiet_step (fail))
                  refine wpQuiet_nil ?_
                  intro w5 hww5
                  replace hww5 := below_of_regrown hww5
                  clear hgrow
                  have R5 := Lib.hid (R4.out.below hww5)
                  have r5 := R5.out.res.cell
                  have r5f := R5.out.res.froz
                  have hl5' := R5.out.res.lt
                  go_wp2_with fail
                  refine bodyPost_ret (v := .tuple #[.agg #[.slice none 0 0, .slice none 0 0], .bool false]) (by simp [results, Try.results14, go_sem, r5]) rfl ?_
                  exact spOf_end0 E.out (below_set (below_set R5.out.bel (p := ⟨w.heap.size, 0, none⟩) (Nat.le_refl _) _) (p := ⟨w.heap.size, 1, none⟩) (Nat.le_refl _) _)
                · have e1 : (q.at_ == p.at_) = true := by simpa using hqa
                  have e2 : (q.birth == p.birth) = false := by simpa using hqb
                  have HQ2 := Lib.hid (noq_step HQ.out HE'.out (fun h => hqb h.2))
                  clear hqa hqb
                  go_wp2_with fail
                  refine wp_quiet_b (by kernel_rfl) (by kernel_rfl) (fun hgrow => ?_)
                  repeat (go_big_quiet_step (fail))
                  refine wpQuiet_nil ?_
                  intro w5 hww5
                  replace hww5 := below_of_regrown hww5
                  clear hgrow
                  have R5 := Lib.hid (R4.out.below hww5)
                  have BX5 := Lib.hid (BX4.out.below hww5)
                  go_wp2_with fail
                  exact ⟨⟨j + 1, by omega, by go_num, HQ2, R5, BX5⟩, by simp [intOf]; omega⟩
              · have e1 : (q.at_ == p.at_) = false := by simpa using hqa
                have HQ2 := Lib.hid (noq_step HQ.out HE'.out (fun h => hqa h.1))
                clear hqa
                go_wp2_with fail
                refine wp_quiet_b (by kernel_rfl) (by kernel_rfl) (fun hgrow => ?_)
                repeat (go_big_quiet_step (fail))
                refine wpQuiet_nil ?_
                intro w5 hww5
                replace hww5 := below_of_regrown hww5
                clear hgrow
                have R5 := Lib.hid (R4.out.below hww5)
                have BX5 := Lib.hid (BX4.out.below hww5)
                go_wp2_with fail
                exact ⟨⟨j + 1, by omega, by go_num, HQ2, R5, BX5⟩, by simp [intOf]; omega⟩
            · obtain rfl : k = j := by omega
              have HN := Lib.hid (HND.out (by
                cases hd : dupB (ps.take k) p
                · rfl
                · obtain ⟨q, hq, h1, h2⟩ := dupB_iff.1 hd
                  exact absurd ⟨h1, h2⟩ (HQ.out q hq)))
              go_wp2_with fail
              refine Calls.mono (HH.out _) ?_
              rintro e w4 ⟨rfl, hB⟩
              have R4 := Lib.hid (R3.out.below hB)
              have BX4 := Lib.hid (BX3.out.below hB)
              have bx4 := BX4.out.cell
              have out4 := R4.out.out.cell
              clear hB bx3
              obtain ⟨rv, hrv⟩ : ∃ rv, rs.getD p.at_.toNat 0 = rv := ⟨_, rfl⟩
              obtain ⟨lv, hlv⟩ : ∃ lv, ls.getD p.at_.toNat 0 = lv := ⟨_, rfl⟩
              rw [hrv] at hrb
              rw [hlv] at hlb
              obtain ⟨hrb0, hrb1⟩ := hrb
              obtain ⟨hlb0, hlb1⟩ := hlb
              have hc1 : w4.cell? ⟨b1, p.at_.toNat, none⟩ = some (.int .i64 rv) := by
                obtain ⟨bq, oq, hq1, hq2, hq3⟩ := num_at (k := p.at_.toNat) (own_rdG R4.out.refs).1 (by rw [HKL.out.1]; omega)
                cases hq1
                rw [Nat.zero_add, hrv] at hq3
                exact hq3
              have hc2 : w4.cell? ⟨b2, p.at_.toNat, none⟩ = some (.int .i64 lv) := by
                obtain ⟨bq, oq, hq1, hq2, hq3⟩ := num_at (k := p.at_.toNat) (own_rdG R4.out.last).1 (by rw [HKL.out.2]; omega)
                cases hq1
                rw [Nat.zero_add, hlv] at hq3
                exact hq3
              have hf1 : w4.frozen? ⟨b1, p.at_.toNat, none⟩ = false := own_frozG R4.out.refs _
              have hf2 : w4.frozen? ⟨b2, p.at_.toNat, none⟩ = false := own_frozG R4.out.last _
              have HRV := Lib.hid hrv
              have HLV := Lib.hid hlv
              have hp0 : (0 : Int) ≤ p.at_ := by omega
              have hp64 : p.at_ < 64 := by omega
              clear hrv hlv
              go_wp2_with fail
              go_still_tail 12, (by kernel_rfl)
              go_wp2_with fail
              obtain ⟨w5, hw5⟩ : ∃ w5, (w4.setCell ⟨b1, p.at_.toNat, none⟩ (.int .i64 (rv + 1))).drew = w5 := ⟨_, rfl⟩
              have out5 := (R4.out.out.set (p := ⟨b1, p.at_.toNat, none⟩) (by dsimp only; omega) (.int .i64 (rv + 1))).drew.cell
              have bx5 := (BX4.out.set (p := ⟨b1, p.at_.toNat, none⟩) (by dsimp only; omega) (.int .i64 (rv + 1))).drew.cell
              have hc5 : (w4.setCell ⟨b1, p.at_.toNat, none⟩ (.int .i64 (rv + 1))).drew.cell? ⟨b2, p.at_.toNat, none⟩ = some (.int .i64 lv) := by
                show (w4.setCell ⟨b1, p.at_.toNat, none⟩ (.int .i64 (rv + 1))).cell? ⟨b2, p.at_.toNat, none⟩ = some (.int .i64 lv)
                rw [World.cell?_setCell_other _ _ _ _ (by intro e; cases e; exact hne rfl)]; exact hc2
              have hf5 : (w4.setCell ⟨b1, p.at_.toNat, none⟩ (.int .i64 (rv + 1))).drew.frozen? ⟨b2, p.at_.toNat, none⟩ = false := by
                show (w4.setCell ⟨b1, p.at_.toNat, none⟩ (.int .i64 (rv + 1))).frozen? ⟨b2, p.at_.toNat, none⟩ = false
                rw [World.frozen?_setCell]; exact hf2
              rw [hw5] at out5 bx5 hc5 hf5 ⊢
              have HW5 := Lib.hid hw5
              clear hw5 out4 bx4 hc1 hc2 hf1 hf2
              go_still_tail 14, (by kernel_rfl)
              go_wp2_with fail
              have hW := HW5.out
              subst hW
              exact ⟨⟨k + 1, addR rs p, addB' ls p, by omega, by go_num, Lib.hid (sp_rel_next2 HN.out HRV.out HLV.out hne (by omega) R4.out.refs R4.out.last R4.out.res R4.out.out R4.out.bel (by omega) (by omega) (by omega) (by omega) HKL.out.1 HKL.out.2)⟩, by simp [intOf]; omega⟩
        · rw [hho] at HH
          have HN := Lib.hid (sp_hole HL.out.eq HE.out hok hho)
          clear hok hho
          go_wp2_with fail
          refine Calls.mono (HP.out _) ?_
          rintro e w2 ⟨rfl, hB⟩
          have R2 := Lib.hid (HLp.out.below hB)
          have BX2 := Lib.hid (BXp.out.below hB)
          clear hB HLp BXp
          go_wp2_with fail
          go_loopw [7] (fun x wi => x = .int .i64 0 ∧ Hid (SpRel2 w ps b1 b2 w1.heap.size k rs ls wi) ∧ Hid (BoxAt wi wo.heap.size #[.int .i64 p.at_, .int .i64 p.birth, .int .i64 p.size, .int .i64 p.sum, .int .i64 p.level] 41)) (fun _ _ => 0)
          case atStart => exact ⟨rfl, R2, BX2⟩
          case round =>
            clear R2 BX2
            obtain ⟨rfl, R3, BX3⟩ := hrel
            have bx3 := BX3.out.cell
            by_cases hk0 : 0 < k
            · go_wp2_with fail
              refine Calls.mono (HH.out _) ?_
              rintro e w4 ⟨rfl, hB⟩
              have R4 := Lib.hid (R3.out.below hB)
              have BX4 := Lib.hid (BX3.out.below hB)
              have bx4 := BX4.out.cell
              clear hB bx3
              go_wp2_with fail
              refine Calls.mono (HH.out _) ?_
              rintro e w5 ⟨rfl, hB⟩
              have R5 := Lib.hid (R4.out.below hB)
              clear hB
              go_wp2_with fail
              exact ⟨⟨k + 1, rs, ls, by omega, by go_num, Lib.hid ⟨HN.out, R5.out.refs, R5.out.last, R5.out.res, R5.out.out, R5.out.bel⟩⟩, by simp [intOf]; omega⟩
            · obtain rfl : k = 0 := by omega
              go_wp2_with fail
              refine Calls.mono (HH.out _) ?_
              rintro e w5 ⟨rfl, hB⟩
              have R5 := Lib.hid (R3.out.below hB)
              clear hB
              go_wp2_with fail
              exact ⟨⟨0 + 1, rs, ls, by omega, by go_num, Lib.hid ⟨HN.out, R5.out.refs, R5.out.last, R5.out.res, R5.out.out, R5.out.bel⟩⟩, by simp [intOf]; omega⟩
    · obtain rfl : k = ps.length := by omega
      have E := Lib.hid (sp_end HL.out.eq)
      have hres := HL.out.res.cell
      have hresf := HL.out.res.froz
      have hout := HL.out.out.cell
      go_wp2_with fail
      refine bodyPost_ret (v := .tuple #[.agg #[.slice (some ⟨b1, 0, none⟩) 64 64, .slice (some ⟨b2, 0, none⟩) 64 64], .bool true]) (by simp [results, Try.results14, go_sem, hres]) rfl ?_
      have hS := below_set (below_set HL.out.bel (p := ⟨w.heap.size, 0, none⟩) (Nat.le_refl _) (.slice (some ⟨b1, 0, none⟩) 64 64)) (p := ⟨w.heap.size, 1, none⟩) (Nat.le_refl _) (.slice (some ⟨b2, 0, none⟩) 64 64)
      have hK := ((Kp.refl [w.heap.size] wo).setCell (p := ⟨w.heap.size, 0, none⟩) (.inl (by simp)) (.slice (some ⟨b1, 0, none⟩) 64 64)).setCell (p := ⟨w.heap.size, 1, none⟩) (.inl (by simp)) (.slice (some ⟨b2, 0, none⟩) 64 64)
      exact spOf_end1 E.out (HL.out.refs.kp hK (fun x hx e => by simp at hx; simp [Value.ownBlock] at e; omega)) (HL.out.last.kp hK (fun x hx e => by simp at hx; simp [Value.ownBlock] at e; omega)) (fun x hx hm => by simp [exOf', Value.ownBlock] at hx hm; omega) hS

end Go.Proofs.Ytomofiklodojeaa
