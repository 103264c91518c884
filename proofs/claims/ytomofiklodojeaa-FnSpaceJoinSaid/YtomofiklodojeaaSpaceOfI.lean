/- The space that a list of pointers makes: the program's text. -/
import Derived.Test.YtomofiklodojeaaSpOf
import Derived.Test.YtomofiklodojeaaPairMap
import Derived.Test.YtomofiklodojeaaBox
import Derived.Test.YtomofiklodojeaaStoreNew
import Derived.Test.YtomofiklodojeaaSpace
import Derived.StillTailTactics
import Derived.Maps.Own
namespace Go.Proofs.Ytomofiklodojeaa
open Go.RowKit
set_option maxRecDepth 100000
set_option linter.unusedVariables false
set_option linter.unusedSimpArgs false

theorem own_frozG {α : Type} {enc : α → Nat → Value} {sz T base : Nat} {w : World} {b n c : Nat} {xs : List α} (h : Own enc sz T base w (.slice (some ⟨b, 0, none⟩) n c) xs) : ∀ j, w.frozen? ⟨b, j, none⟩ = false := fun j => by
  obtain ⟨_, hl, _⟩ := own_rdG h
  subst hl
  exact World.ownsRow.frozenAt h j
/-- What counting gives: two rows of the call's own, or none. -/
def SpOfPost (w : World) (ps : List Pt) (e : Ending) (w' : World) : Prop := ∃ (v u : Value) (rs ls : List Int), (spOf ps).getD ([], []) = (rs, ls) ∧ e = .returned (.tuple #[.agg #[v, u], .bool (spOf ps).isSome]) ∧ Own encN 1 3 w.heap.size w' v rs ∧ Own encN 1 3 w.heap.size w' u ls ∧ Apart v u ∧ Below w.heap.size w w'

theorem spOf_end0 {w w' : World} {ps : List Pt} (h : spOf ps = none) (hB : Below w.heap.size w w') : SpOfPost w ps (.returned (.tuple #[.agg #[.slice none 0 0, .slice none 0 0], .bool false])) w' :=
  ⟨_, _, [], [], by rw [h]; rfl, by rw [h]; rfl, Own.nil, Own.nil, apart_nil _, hB⟩
theorem spOf_end1 {w w' : World} {ps : List Pt} {rs ls : List Int} {v u : Value} (h : spOf ps = some (rs, ls)) (h1 : Own encN 1 3 w.heap.size w' v rs) (h2 : Own encN 1 3 w.heap.size w' u ls) (ha : Apart v u) (hB : Below w.heap.size w w') : SpOfPost w ps (.returned (.tuple #[.agg #[v, u], .bool true])) w' :=
  ⟨_, _, rs, ls, by rw [h]; rfl, by rw [h]; rfl, h1, h2, ha, hB⟩

/-- What holds at a round's head. -/
structure SpRel (w : World) (ps : List Pt) (b1 b2 ob mb : Nat) (k : Nat) (rs ls : List Int) (wr : World) : Prop where
  eq : SpAt ps k rs ls
  refs : Own encN 1 3 w.heap.size wr (.slice (some ⟨b1, 0, none⟩) 64 64) rs
  last : Own encN 1 3 w.heap.size wr (.slice (some ⟨b2, 0, none⟩) 64 64) ls
  res : BoxAt wr w.heap.size #[.slice none 0 0, .slice none 0 0] 27
  out : BoxAt wr ob #[.slice (some ⟨b1, 0, none⟩) 64 64, .slice (some ⟨b2, 0, none⟩) 64 64] 27
  seen : MapAt wr mb (seenP ps k)
  bel : Below w.heap.size w wr
theorem SpRel.below {w : World} {ps : List Pt} {b1 b2 ob mb k : Nat} {rs ls : List Int} {wr w' : World} (h : SpRel w ps b1 b2 ob mb k rs ls wr) (hB : Below wr.heap.size wr w') : SpRel w ps b1 b2 ob mb k rs ls w' :=
  ⟨h.eq, h.refs.below hB, h.last.below hB, h.res.below hB, h.out.below hB, h.seen.below hB, below_below h.bel hB⟩

theorem own_setN {T base : Nat} {w : World} {b n c : Nat} {rs : List Int} (h : Own encN 1 T base w (.slice (some ⟨b, 0, none⟩) n c) rs) (j : Nat) (v : Int) (hj : j < n) : Own encN 1 T base (w.setCell ⟨b, j, none⟩ (.int .i64 v)) (.slice (some ⟨b, 0, none⟩) n c) (rs.set j v) := by
  obtain ⟨_, hl, _⟩ := own_rdG h
  subst hl
  have h1 := (World.ownsRow.stored h j (.int .i64 v)).1
  have e := cellsOf_set1 (enc := encN) rs j v hj
  unfold Own
  rw [List.length_set, ← e]
  exact h1
theorem own_other {T base : Nat} {w : World} {b b' n c : Nat} {rs : List Int} (h : Own encN 1 T base w (.slice (some ⟨b, 0, none⟩) n c) rs) {o : Nat} {u : Value} (hb : b ≠ b') : Own encN 1 T base (w.setCell ⟨b', o, none⟩ u) (.slice (some ⟨b, 0, none⟩) n c) rs :=
  h.kp (ex := [b']) ((Kp.refl _ _).setCell (.inl (by simp)) u) (fun x hx e => by simp at hx; simp [Value.ownBlock] at e; omega)
theorem sp_rel_next {w w4 : World} {ps : List Pt} {b1 b2 ob mb k : Nat} {rs ls : List Int} {p : Pt} {rv lv : Int} (hs : SpAt ps (k + 1) (addR rs p) (addB' ls p)) (hr : rs.getD p.at_.toNat 0 = rv) (hl : ls.getD p.at_.toNat 0 = lv) (hne : b1 ≠ b2) (hj : p.at_.toNat < 64)
    (O1 : Own encN 1 3 w.heap.size w4 (.slice (some ⟨b1, 0, none⟩) 64 64) rs) (O2 : Own encN 1 3 w.heap.size w4 (.slice (some ⟨b2, 0, none⟩) 64 64) ls) (RES : BoxAt w4 w.heap.size #[.slice none 0 0, .slice none 0 0] 27)
    (OUT : BoxAt w4 ob #[.slice (some ⟨b1, 0, none⟩) 64 64, .slice (some ⟨b2, 0, none⟩) 64 64] 27) (M : MapAt w4 mb (seenP ps (k + 1))) (hB : Below w.heap.size w w4)
    (g1 : w.heap.size < b1) (g2 : w.heap.size < b2) (n1 : ¬ ob = b1) (n2 : ¬ ob = b2) (m1 : ¬ mb = b1) (m2 : ¬ mb = b2) (l1 : rs.length = 64) (l2 : ls.length = 64) :
    SpRel w ps b1 b2 ob mb (k + 1) (addR rs p) (addB' ls p) ((w4.setCell ⟨b1, p.at_.toNat, none⟩ (.int .i64 (rv + 1))).setCell ⟨b2, p.at_.toNat, none⟩ (.int .i64 (if lv < p.birth then p.birth else lv))).drew := by
  have hmx : (if lv < p.birth then p.birth else lv) = max lv p.birth := by
    rw [Int.max_def]
    split <;> split <;> omega
  have hK : Kp [b1, b2] w4 ((w4.setCell ⟨b1, p.at_.toNat, none⟩ (.int .i64 (rv + 1))).setCell ⟨b2, p.at_.toNat, none⟩ (.int .i64 (max lv p.birth))).drew := (((Kp.refl _ _).setCell (.inl (by simp)) _).setCell (.inl (by simp)) _).drew
  rw [hmx]
  refine ⟨hs, ?_, ?_, RES.kp hK (by simp; omega), OUT.kp hK (by simp; omega), M.kp hK (by simp; omega), below_kp hB hK (fun x hx => by simp at hx; omega)⟩
  · have := own_other (own_setN O1 p.at_.toNat (rv + 1) hj) (o := p.at_.toNat) (u := .int .i64 (max lv p.birth)) hne
    rw [addR, hr]
    exact this
  · have := own_setN (own_other O2 (o := p.at_.toNat) (u := .int .i64 (rv + 1)) (Ne.symm hne)) p.at_.toNat (max lv p.birth) hj
    rw [addB', hl]
    exact this

set_option maxHeartbeats 1000000 in
theorem spaceOf_any (w : World) (A : Option Addr) (cap : Nat) (ps : List Pt) (h : RdT encP 5 w A ps) (hc : ps.length ≤ cap) (hm : cap ≤ 9223372036854775807) :
    Calls Try.prog 13 #[.slice A ps.length cap] w (SpOfPost w ps) := by
  have HR := Lib.hid h
  clear h
  have hmm := @run_makeMap Try.prog
  go_enter Try.func13, Try.ntmps13
  go_wp2_with fail
  refine Calls.mono (spaceNew_any _) ?_
  rintro e w1 ⟨b1, b2, rfl, hne, hg1, hg2, hz1, hz2, hB⟩
  have hl1 := heap_lt hz1
  have hl2 := heap_lt hz2
  have RB := Lib.hid ((box_new w #[.slice none 0 0, .slice none 0 0] 27).below hB)
  have O1 := Lib.hid (own_zerosN (base := w.heap.size) (n := 64) (by simp only [World.size_alloc] at hg1; omega) (by omega) hz1)
  have O2 := Lib.hid (own_zerosN (base := w.heap.size) (n := 64) (by simp only [World.size_alloc] at hg2; omega) (by omega) hz2)
  have HB1 := Lib.hid (below_below (below_alloc (Below.refl w.heap.size w) (.cells #[.slice none 0 0, .slice none 0 0] 27)) hB)
  have hw1 : w.heap.size < w1.heap.size := RB.out.lt
  simp only [World.size_alloc] at hg1 hg2
  clear hB hz1 hz2
  have hBo := below_alloc (below_alloc (Below.refl w1.heap.size w1) (.cells #[.slice (some ⟨b1, 0, none⟩) 64 64, .slice (some ⟨b2, 0, none⟩) 64 64] 27)) (.map #[] 0)
  have hM0 := map_new (w1.alloc (.cells #[.slice (some ⟨b1, 0, none⟩) 64 64, .slice (some ⟨b2, 0, none⟩) 64 64] 27))
  have hsz1 : (w1.alloc (.cells #[.slice (some ⟨b1, 0, none⟩) 64 64, .slice (some ⟨b2, 0, none⟩) 64 64] 27)).heap.size = w1.heap.size + 1 := World.size_alloc _ _
  rw [hsz1] at hM0
  have RL := Lib.hid (SpRel.mk (w := w) (ps := ps) (b1 := b1) (b2 := b2) (ob := w1.heap.size) (mb := w1.heap.size + 1) (k := 0) (spAt_start ps) (O1.out.below hBo) (O2.out.below hBo) (RB.out.below hBo) ((box_new w1 _ _).alloc _) (hM0.iff (fun x y => (seen_zero ps x y).symm)) (below_below HB1.out hBo))
  clear hBo hM0 hsz1 O1 O2 RB HB1
  go_wp2_with fail
  go_loopw [12] (fun i wr => ∃ (k : Nat) (rs ls : List Int), k ≤ ps.length ∧ i = .int .i64 k ∧ Hid (SpRel w ps b1 b2 w1.heap.size (w1.heap.size + 1) k rs ls wr)) (fun i _ => ps.length - (intOf i).toNat)
  case atStart => exact ⟨0, _, _, Nat.zero_le _, rfl, RL⟩
  case round =>
    clear RL
    obtain ⟨k, rs, ls, hk, rfl, HL⟩ := hrel
    have hkb : (k : Int) ≤ 9223372036854775807 := by omega
    have hres := HL.out.res.cell
    have hresf := HL.out.res.froz
    have hout := HL.out.out.cell
    have hlo := HL.out.out.lt
    have hlr := HL.out.res.lt
    by_cases hlt : k < ps.length
    · obtain ⟨b, off, p, rfl, hb, he, c0, c1, c2, c3, c4⟩ := (HR.out.below HL.out.bel).ptr hlt
      have HE := Lib.hid he
      have HP := Lib.hid (ptrOk_any p)
      have HH := Lib.hid (ptrHole_any p)
      have HPV := Lib.hid (show p.v = .agg #[.int .i64 p.at_, .int .i64 p.birth, .int .i64 p.size, .int .i64 p.sum, .int .i64 p.level] from rfl)
      rw [HPV.out] at HP HH
      clear he
      have hBp := below_alloc (Below.refl wr.heap.size wr) (.cells #[.int .i64 p.at_, .int .i64 p.birth, .int .i64 p.size, .int .i64 p.sum, .int .i64 p.level] 41)
      have HLp := Lib.hid (HL.out.below hBp)
      have BXp := Lib.hid (box_new wr #[.int .i64 p.at_, .int .i64 p.birth, .int .i64 p.size, .int .i64 p.sum, .int .i64 p.level] 41)
      clear hBp
      cases hok : ptrB p
      · rw [hok] at HP
        have E := Lib.hid (sp_bad HL.out.eq HE.out hok)
        clear hok
        go_wp2_with fail
        refine Calls.mono (HP.out _) ?_
        rintro e w2 ⟨rfl, hB⟩
        have R2 := Lib.hid (HLp.out.below hB)
        have r2 := R2.out.res.cell
        have r2f := R2.out.res.froz
        have hl2' := R2.out.res.lt
        clear hB hres hresf hout
        go_wp2_with fail
        refine bodyPost_ret (v := .tuple #[.agg #[.slice none 0 0, .slice none 0 0], .bool false]) (by simp [results, Try.results13, go_sem, r2]) rfl ?_
        exact spOf_end0 E.out (below_set (below_set R2.out.bel (p := ⟨w.heap.size, 0, none⟩) (Nat.le_refl _) _) (p := ⟨w.heap.size, 1, none⟩) (Nat.le_refl _) _)
      · rw [hok] at HP
        cases hho : holeB p
        · rw [hho] at HH
          obtain ⟨hp1, hp2, hp3, hp4⟩ := ptr_in hok hho
          have HSD := Lib.hid (seen_dup (ps := ps) (k := k) hok hho)
          cases hdd : dupB (ps.take k) p
          · have HN := Lib.hid (sp_new HL.out.eq HE.out hok hho hdd)
            have HSN := Lib.hid (seen_new HL.out.eq HE.out hho)
            have HNO := Lib.hid (show ¬ seenP ps k p.at_ p.birth from fun hs => by have := HSD.out.1 hs; rw [hdd] at this; cases this)
            clear hok hho hdd HSD
            go_wp2_with fail
            refine Calls.mono (HP.out _) ?_
            rintro e w2 ⟨rfl, hB⟩
            have R2 := Lib.hid (HLp.out.below hB)
            have BX2 := Lib.hid (BXp.out.below hB)
            have bx2 := BX2.out.cell
            clear hB hres hresf hout HLp BXp
            go_wp2_with fail
            refine Calls.mono (HH.out _) ?_
            rintro e w3 ⟨rfl, hB⟩
            have R3 := Lib.hid (R2.out.below hB)
            have BX3 := Lib.hid (BX2.out.below hB)
            have bx3 := BX3.out.cell
            have hlook := map_no R3.out.seen (a := p.at_) (b := p.birth) (by omega) (by omega) (by omega) (by omega) HNO.out
            obtain ⟨w4, hput, M4, K4, hsz4⟩ := map_put R3.out.seen (a := p.at_) (b := p.birth) (by omega) (by omega) (by omega) (by omega) HNO.out
            have HM4 := Lib.hid (M4.iff (HSN.out))
            have HK4 := Lib.hid K4
            have BX4 := Lib.hid (BX3.out.kp K4 (by have := BX3.out.lt; have := HL.out.seen.lt; simp; omega))
            have OUT4 := Lib.hid (R3.out.out.kp K4 (by simp))
            have RES4 := Lib.hid (R3.out.res.kp K4 (by simp; omega))
            have RF4 := Lib.hid (R3.out.refs.kp K4 (fun x hx e => by simp at hx; simp [Value.ownBlock] at e; omega))
            have LS4 := Lib.hid (R3.out.last.kp K4 (fun x hx e => by simp at hx; simp [Value.ownBlock] at e; omega))
            have HB4 := Lib.hid (below_kp R3.out.bel K4 (fun x hx => by simp at hx; omega))
            have bx4 := BX4.out.cell
            have out4 := OUT4.out.cell
            obtain ⟨rv, hrv⟩ : ∃ rv, rs.getD p.at_.toNat 0 = rv := ⟨_, rfl⟩
            obtain ⟨lv, hlv⟩ : ∃ lv, ls.getD p.at_.toNat 0 = lv := ⟨_, rfl⟩
            have hrb := HL.out.eq.2.2.2.1 p.at_.toNat
            have hlb := HL.out.eq.2.2.2.2 p.at_.toNat
            rw [hrv] at hrb
            rw [hlv] at hlb
            obtain ⟨hrb0, hrb1⟩ := hrb
            obtain ⟨hlb0, hlb1⟩ := hlb
            have hc1 : w4.cell? ⟨b1, p.at_.toNat, none⟩ = some (.int .i64 rv) := by
              obtain ⟨bq, oq, hq1, hq2, hq3⟩ := num_at (k := p.at_.toNat) (own_rdG RF4.out).1 (by rw [HL.out.eq.2.1]; omega)
              cases hq1
              rw [Nat.zero_add, hrv] at hq3
              exact hq3
            have hc2 : w4.cell? ⟨b2, p.at_.toNat, none⟩ = some (.int .i64 lv) := by
              obtain ⟨bq, oq, hq1, hq2, hq3⟩ := num_at (k := p.at_.toNat) (own_rdG LS4.out).1 (by rw [HL.out.eq.2.2.1]; omega)
              cases hq1
              rw [Nat.zero_add, hlv] at hq3
              exact hq3
            have hf1 : w4.frozen? ⟨b1, p.at_.toNat, none⟩ = false := own_frozG RF4.out _
            have hf2 : w4.frozen? ⟨b2, p.at_.toNat, none⟩ = false := own_frozG LS4.out _
            have HRV := Lib.hid hrv
            have HLV := Lib.hid hlv
            have hob : ¬ b1 = w1.heap.size := by omega
            have hob2 : ¬ b2 = w1.heap.size := by omega
            have hlw : w1.heap.size < wr.heap.size := hlo
            have hpb1 : ¬ b1 = wr.heap.size := by omega
            have hpb2 : ¬ b2 = wr.heap.size := by omega
            have hne' : ¬ b1 = b2 := hne
            have hne2 : ¬ b2 = b1 := fun h => hne h.symm
            have hp0 : (0 : Int) ≤ p.at_ := by omega
            have hp64 : p.at_ < 64 := by omega
            clear M4 K4 bx2 hB R2 BX2 BX3 hrv hlv
            go_wp2_with fail
            obtain ⟨w5, hw5⟩ : ∃ w5, w4.setCell ⟨b1, p.at_.toNat, none⟩ (.int .i64 (rv + 1)) = w5 := ⟨_, rfl⟩
            have out5 := (OUT4.out.set (p := ⟨b1, p.at_.toNat, none⟩) (by dsimp only; omega) (.int .i64 (rv + 1))).cell
            have bx5 := (BX4.out.set (p := ⟨b1, p.at_.toNat, none⟩) (by dsimp only; omega) (.int .i64 (rv + 1))).cell
            have hc5 : (w4.setCell ⟨b1, p.at_.toNat, none⟩ (.int .i64 (rv + 1))).cell? ⟨b2, p.at_.toNat, none⟩ = some (.int .i64 lv) := by rw [World.cell?_setCell_other _ _ _ _ (by intro e; cases e; exact hne rfl)]; exact hc2
            have hf5 : (w4.setCell ⟨b1, p.at_.toNat, none⟩ (.int .i64 (rv + 1))).frozen? ⟨b2, p.at_.toNat, none⟩ = false := by rw [World.frozen?_setCell]; exact hf2
            rw [hw5] at out5 bx5 hc5 hf5 ⊢
            have HW5 := Lib.hid hw5
            clear hw5 out4 bx4 hc1 hc2 hf1 hf2 bx3 hlook hput
            go_still_tail 14, (by kernel_rfl)
            go_wp2_with fail
            go_roundw
            case rel =>
              have hW := HW5.out
              subst hW
              refine ⟨k + 1, addR rs p, addB' ls p, by omega, by go_num, Lib.hid ?_⟩
              exact sp_rel_next HN.out HRV.out HLV.out hne (by omega) RF4.out LS4.out RES4.out OUT4.out HM4.out HB4.out (by omega) (by omega) (by omega) (by omega) (by omega) (by omega) (by have := HL.out.eq.2.1; omega) (by have := HL.out.eq.2.2.1; omega)
            case measure => simp [intOf]; omega
          · have HY := Lib.hid (HSD.out.2 hdd)
            have E := Lib.hid (sp_dup HL.out.eq HE.out hok hho hdd)
            clear hok hho hdd HSD
            go_wp2_with fail
            refine Calls.mono (HP.out _) ?_
            rintro e w2 ⟨rfl, hB⟩
            have R2 := Lib.hid (HLp.out.below hB)
            have BX2 := Lib.hid (BXp.out.below hB)
            have bx2 := BX2.out.cell
            clear hB hres hresf hout HLp BXp
            go_wp2_with fail
            refine Calls.mono (HH.out _) ?_
            rintro e w3 ⟨rfl, hB⟩
            have R3 := Lib.hid (R2.out.below hB)
            have BX3 := Lib.hid (BX2.out.below hB)
            have bx3 := BX3.out.cell
            have hlook := map_yes R3.out.seen (a := p.at_) (b := p.birth) (by omega) (by omega) (by omega) (by omega) HY.out
            have r2 := R3.out.res.cell
            have r2f := R3.out.res.froz
            have hl2' := R3.out.res.lt
            clear hB bx2 R2 BX2
            go_wp2_with fail
            refine bodyPost_ret (v := .tuple #[.agg #[.slice none 0 0, .slice none 0 0], .bool false]) (by simp [results, Try.results13, go_sem, r2]) rfl ?_
            exact spOf_end0 E.out (below_set (below_set R3.out.bel (p := ⟨w.heap.size, 0, none⟩) (Nat.le_refl _) _) (p := ⟨w.heap.size, 1, none⟩) (Nat.le_refl _) _)
        · rw [hho] at HH
          have HN := Lib.hid (sp_hole HL.out.eq HE.out hok hho)
          have HSN := Lib.hid (seen_hole HL.out.eq HE.out hho)
          clear hok hho
          go_wp2_with fail
          refine Calls.mono (HP.out _) ?_
          rintro e w2 ⟨rfl, hB⟩
          have R2 := Lib.hid (HLp.out.below hB)
          have BX2 := Lib.hid (BXp.out.below hB)
          have bx2 := BX2.out.cell
          clear hB hres hresf hout HLp BXp
          go_wp2_with fail
          refine Calls.mono (HH.out _) ?_
          rintro e w3 ⟨rfl, hB⟩
          have R3 := Lib.hid (R2.out.below hB)
          clear hB
          go_wp2_with fail
          go_roundw
          case rel => exact ⟨k + 1, rs, ls, by omega, by go_num, Lib.hid ⟨HN.out, R3.out.refs, R3.out.last, R3.out.res, R3.out.out, R3.out.seen.iff HSN.out, R3.out.bel⟩⟩
          case measure => simp [intOf]; omega
    · obtain rfl : k = ps.length := by omega
      have E := Lib.hid (sp_end HL.out.eq)
      go_wp2_with fail
      refine bodyPost_ret (v := .tuple #[.agg #[.slice (some ⟨b1, 0, none⟩) 64 64, .slice (some ⟨b2, 0, none⟩) 64 64], .bool true]) (by simp [results, Try.results13, go_sem, hres]) rfl ?_
      have hS := below_set (below_set HL.out.bel (p := ⟨w.heap.size, 0, none⟩) (Nat.le_refl _) (.slice (some ⟨b1, 0, none⟩) 64 64)) (p := ⟨w.heap.size, 1, none⟩) (Nat.le_refl _) (.slice (some ⟨b2, 0, none⟩) 64 64)
      have hK := ((Kp.refl [w.heap.size] wr).setCell (p := ⟨w.heap.size, 0, none⟩) (.inl (by simp)) (.slice (some ⟨b1, 0, none⟩) 64 64)).setCell (p := ⟨w.heap.size, 1, none⟩) (.inl (by simp)) (.slice (some ⟨b2, 0, none⟩) 64 64)
      exact spOf_end1 E.out (HL.out.refs.kp hK (fun x hx e => by simp at hx; simp [Value.ownBlock] at e; omega)) (HL.out.last.kp hK (fun x hx e => by simp at hx; simp [Value.ownBlock] at e; omega)) (fun x hx hm => by simp [exOf', Value.ownBlock] at hx hm; omega) hS

end Go.Proofs.Ytomofiklodojeaa
