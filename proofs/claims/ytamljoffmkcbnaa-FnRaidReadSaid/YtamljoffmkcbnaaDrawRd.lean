/- The disks of a pool drawn: the reference's l91Raid. -/
import Derived.Test.YtamljoffmkcbnaaDrawRs2
import Derived.Deep.CutRange
import Derived.Deep.CutBlock
import Derived.Test.YtamljoffmkcbnaaDrawDk2
import Derived.Test.YtamljoffmkcbnaaRaidNew
namespace Go.Proofs.Ytamljoffmkcbnaa
open Go.RowKit Go.Sort
set_option maxRecDepth 100000
set_option linter.unusedVariables false
set_option linter.unusedSimpArgs false

theorem rd_onePAt (w : World) (p : Pt) {k : Nat} (h : k = w.heap.size) : RdT encP 5 (w.alloc (.cells #[.int .i64 p.at_, .int .i64 p.birth, .int .i64 p.size, .int .i64 p.sum, .int .i64 p.level] 29)) (some ⟨k, 0, none⟩) [p] := fun _ => ⟨k, 0, rfl, by subst h; simp, fun i y hy j hj => by
  subst h
  have : i = 0 := by
    rcases i with _ | i
    · rfl
    · simp at hy
  subst this
  simp at hy
  subst hy
  have hb := box_new w #[.int .i64 p.at_, .int .i64 p.birth, .int .i64 p.size, .int .i64 p.sum, .int .i64 p.level] 29
  rw [hb.cell]
  match j, hj with
  | 0, _ => rfl
  | 1, _ => rfl
  | 2, _ => rfl
  | 3, _ => rfl
  | 4, _ => rfl⟩

def DkV (K : Nat) (w : World) (rb p : Nat) (v : Value) (w' : World) : Prop := ∃ (x : DA) (d : Dk) (k : Nat), v = x.v ∧ DRd w' x d ∧ From w.heap.size x.C ∧ From w.heap.size x.W ∧ Rs w' rb (p + k) ∧ k ≤ K ∧ Kp [rb] w w'
theorem dkV {K : Nat} {w w' : World} {rb p : Nat} {e : Ending} (h : DkD K w rb p e w') : ∃ v, e = .returned v ∧ DkV K w rb p v w' := by
  obtain ⟨x, d, k, he, h⟩ := h
  exact ⟨_, he, x, d, k, rfl, h⟩
theorem DI.str {base m b : Nat} {w : World} {x : DA} (h : DI base m w x) (hC : x.C = some ⟨b, 0, none⟩) : base ≤ b ∧ TStr w b := by
  obtain ⟨c, hc, h1, h2⟩ := h.c
  rw [hC] at hc
  cases hc
  exact ⟨h1, h2⟩
theorem rs_at0 {w W : World} {rb xb q m D cap lg lc n : Nat} {xs : List DA} {l : List Pt} (h : RS w rb xb q m D cap xs (.slice (some ⟨lg, 0, none⟩) n lc) l W) (hn : n = l.length) (hl : 1 ≤ n) : ∃ a : Nat, a < 64 ∧ lg < W.heap.size ∧ W.cell? ⟨lg, 0, none⟩ = some (.int .i64 (a : Int)) := by
  obtain ⟨A, c, e, h1, h2, _, hr⟩ := h.own.form
  injection e with e1 e2 e3
  subst e1
  subst hn
  obtain ⟨b, off, e, hlt, hc⟩ := hr (by omega)
  cases e
  match l, hl, h.lz, hc with
  | p0 :: t, _, hz, hc =>
    have h0 := hc 0 p0 rfl 0 (by omega)
    have hb := inB_true (hz p0 (by simp))
    obtain ⟨a, ha⟩ := Int.eq_ofNat_of_zero_le hb.1
    refine ⟨a, by have := hb.2; omega, hlt, ?_⟩
    rw [← ha]
    exact h0
/-- The drawing of a text leaves what was made. -/
theorem rs_keep {w W W1 W2 : World} {rb xb q m D cap lg lc n j : Nat} {xs : List DA} {l : List Pt} {u v z : Value} (h : RS w rb xb q m D cap xs (.slice (some ⟨lg, 0, none⟩) n lc) l W) (hB : Below W.heap.size W W1) (hk : Kp [rb] W1 W2) (hlg : lg < W.heap.size) (c0 : W.cell? ⟨xb, 0, none⟩ = some u) (c1 : W.cell? ⟨D, j, none⟩ = some v) (c2 : W.cell? ⟨lg, 0, none⟩ = some z) :
    W2.cell? ⟨xb, 0, none⟩ = some u ∧ W2.cell? ⟨D, j, none⟩ = some v ∧ W2.cell? ⟨lg, 0, none⟩ = some z := by
  have hK := ((Kp.of_below hB).all [rb]).trans hk
  have hrl := h.rl
  have hD := h.ri.ge
  have hgB := h.gB
  have hg := own_baseD h.own lg rfl
  exact ⟨(World.cell?_of_block (w := W) (a := ⟨xb, _, none⟩) (hK.block xb h.box.lt (by simp; omega))).trans c0, (World.cell?_of_block (w := W) (a := ⟨D, _, none⟩) (hK.block D h.ri.lt (by simp; omega))).trans c1, (World.cell?_of_block (w := W) (a := ⟨lg, _, none⟩) (hK.block lg hlg (by simp; omega))).trans c2⟩

theorem cell_oth {w : World} {b c j k : Nat} {u v : Value} (h : w.cell? ⟨b, j, none⟩ = some v) (hne : b ≠ c) : (w.setCell ⟨c, k, none⟩ u).cell? ⟨b, j, none⟩ = some v := (World.cell?_of_block (w := w) (a := ⟨b, _, none⟩) (Below.heap_setCell _ _ _ _ hne)).trans h
theorem rs_keepS {w W : World} {rb xb q m D cap lg lc n j cb a : Nat} {xs : List DA} {l : List Pt} {u v z s : Value} (h : RS w rb xb q m D cap xs (.slice (some ⟨lg, 0, none⟩) n lc) l W) (hst : TStr W cb) (hc : W.cell? ⟨xb, 0, none⟩ = some u ∧ W.cell? ⟨D, j, none⟩ = some v ∧ W.cell? ⟨lg, 0, none⟩ = some z) :
    (W.setCell ⟨cb, a, none⟩ s).cell? ⟨xb, 0, none⟩ = some u ∧ (W.setCell ⟨cb, a, none⟩ s).cell? ⟨D, j, none⟩ = some v ∧ (W.setCell ⟨cb, a, none⟩ s).cell? ⟨lg, 0, none⟩ = some z :=
  ⟨cell_oth hc.1 (fun e => absurd ((Tag.box h.box).one (e ▸ hst.tag)) (by decide)), cell_oth hc.2.1 (fun e => absurd (h.ri.tag.one (e ▸ hst.tag)) (by decide)), cell_oth hc.2.2 (fun e => absurd ((own_tag h.own).one (e ▸ hst.tag)) (by decide))⟩

set_option maxHeartbeats 40000000 in
theorem l91Raid_any (w : World) (rb p : Nat) (h : Rs w rb p) (hp : p ≤ 800000) : Calls Try.prog 39 #[.pointer (some ⟨rb, 0, none⟩)] w (RdD 4000 w rb p) := by
  have hr := h
  have hl := h.lt
  clear h
  have RX := Lib.hid (box_new w #[.slice none 0 0] 25)
  have HR := Lib.hid hr
  clear hr
  go_enter Try.func39, Try.ntmps39
  go_wp2_with fail
  refine Calls.mono (specRaidNew_any _) ?_
  rintro e w1 ⟨D, cap, xs, rfl, hri, hbi, hB⟩
  have hs1 := hB.size
  have RX1 := Lib.hid (RX.out.below hB)
  have B1 := below_alloc (below_alloc (Below.refl w1.heap.size w1) (.cells #[.slice (some ⟨D, 0, none⟩) 3 cap] 25)) (.cells #[] 29)
  have hlow : w.heap.size ≤ (w.alloc (.cells #[.slice none 0 0] 25)).heap.size := by simp
  have hlow1 : (w.alloc (.cells #[.slice none 0 0] 25)).heap.size ≤ w1.heap.size := hs1
  have HI1 := Lib.hid (show RI w.heap.size 0 w1 D cap xs from ⟨hri.row.more hlow, hri.len, fun x hx => (hri.each x hx).lower hlow⟩)
  have HNG := Lib.hid (show ∀ x ∈ xs, x.g = false from fun x hx => (hbi x hx).2.2)
  have S1 := Lib.hid (show RS w rb w1.heap.size p 0 D cap xs (.slice (some ⟨w1.heap.size + 1, 0, none⟩) 0 0) [] ((w1.alloc (.cells #[.slice (some ⟨D, 0, none⟩) 3 cap] 25)).alloc (.cells #[] 29)) from by
    have hBw : Below w.heap.size w w1 := below_below (below_alloc (Below.refl _ _) _) hB
    have O := Own.empty (enc := encP) (sz := 5) (T := 29) (base := w.heap.size) (w := w1.alloc (.cells #[.slice (some ⟨D, 0, none⟩) 3 cap] 25)) (by simp; have := hBw.size; omega)
    rw [World.size_alloc] at O
    refine ⟨(box_new w1 _ _).alloc _, RX1.out.below B1, HI1.out.below hBw.size B1, O, fun z hz => (by cases hz), (HR.out.below hBw).below B1, ((Kp.of_below hBw).all [rb]).trans ((Kp.of_below B1).all [rb]), ?_, hl⟩
    have := hs1
    simp only [World.size_alloc] at this
    omega)
  clear hri hbi hB hs1 B1 hlow hlow1 HI1 RX RX1 HR
  go_wp2_with fail
  refine Calls.mono (pick_nat _ _ _ _ S1.out.rs (by omega) (by omega) (by omega)) ?_
  rintro e w2 ⟨k2, rfl, hk2, hr2, hkk2⟩
  have S2 := Lib.hid (S1.out.pick hr2 hkk2)
  have hk25 : k2 < 5 := by simpa using hk2
  clear hr2 hkk2 hk2 S1
  go_wp2_with fail
  go_loopw [5, 6] (fun v i wr => ∃ (k q m : Nat) (xs : List DA) (l : List Pt), i = .int .i64 k ∧ k + l.length ≤ 5 ∧ m + k ≤ 5 ∧ (1 ≤ k ∨ 1 ≤ l.length) ∧ q + 100 * k ≤ p + 600 ∧ p ≤ q ∧ Hid (∀ x ∈ xs, x.g = false) ∧ Hid (RS w rb w1.heap.size q m D cap xs v l wr)) (fun _ i _ => (intOf i).toNat)
  case atStart => exact ⟨1 + k2, p + 1, 0, xs, [], by congr 1, by simp; omega, by omega, .inl (by omega), by omega, by omega, HNG, S2⟩
  case round =>
    clear S2 HNG
    obtain ⟨k, q, m, xs, l, rfl, hkl, hmk, hone, hq, hpq, HG, HS⟩ := hrel
    by_cases hlt : 0 < k
    · have k2 : IntKind.i64.wrap ((k : Int) - 1) = (k : Int) - 1 := IntWalk.i64_in _ (by omega)
      go_wp2_with fail
      refine Calls.mono (l91Text_any _ rb _ 20 HS.out.rs (by omega) (by omega)) ?_
      rintro e w3 ⟨s3, q3, rfl, hs3, hr3, hq3, hk3⟩
      have S3 := Lib.hid (HS.out.pick hr3 hk3)
      have hts : ((⟨#[98]⟩ : ByteArray) ++ s3).size ≤ 21 := by
        rw [ByteArray.size_append]
        show 1 + s3.size ≤ _
        omega
      have hts1 : 1 ≤ ((⟨#[98]⟩ : ByteArray) ++ s3).size := by
        rw [ByteArray.size_append]
        show 1 ≤ 1 + s3.size
        omega
      have hq1 : ¬ 9223372036854775807 < (⟨#[98]⟩ : ByteArray).size + s3.size := by
        show ¬ 9223372036854775807 < 1 + s3.size
        omega
      clear hr3 hk3 HS
      obtain ⟨tx, htx⟩ : ∃ tx, tx = (⟨#[98]⟩ : ByteArray) ++ s3 := ⟨_, rfl⟩
      rw [← htx] at hts hts1
      go_upto_region 7 with fail
      rw [← htx]
      clear htx hq1 hs3
      go_wp2_with fail
      refine Calls.mono (pick_nat _ _ _ _ S3.out.rs (by omega) (by omega) (by omega)) ?_
      rintro e w4 ⟨j4, rfl, hj4, hr4, hk4⟩
      have S4 := Lib.hid (S3.out.pick hr4 hk4)
      obtain ⟨a4, ha4⟩ : ∃ a4 : Nat, a4 = 8 + j4 := ⟨_, rfl⟩
      have hj49 : j4 < 9 := by simpa using hj4
      have ha64 : a4 < 64 := by omega
      have kw4 : IntKind.i64.wrap ((8 : Int) + (j4 : Int)) = (a4 : Int) := by rw [IntWalk.i64_in _ (by omega)]; omega
      have HA4 := Lib.hid ha4
      clear hr4 hk4 S3 hj4 hj49 ha4
      go_wp2_with fail
      refine Calls.mono (pick_nat _ _ _ _ S4.out.rs (by omega) (by omega) (by omega)) ?_
      rintro e w5 ⟨j5, rfl, hj5, hr5, hk5⟩
      have S5 := Lib.hid (S4.out.pick hr5 hk5)
      have hj59 : (j5 : Int) < 9 := by simp at hj5; omega
      clear hr5 hk5 S4 hj5 kw4
      go_wp2_with fail
      refine Calls.mono (pick_nat _ _ _ _ S5.out.rs (by omega) (by omega) (by omega)) ?_
      rintro e w6 ⟨j6, rfl, hj6, hr6, hk6⟩
      have S6 := Lib.hid (S5.out.pick hr6 hk6)
      clear hr6 hk6 S5 hj6
      go_wp2_with fail
      refine Calls.mono (specPtrOfA_any _ _ _ _ _ (by omega)) ?_
      rintro e w7 ⟨⟨p0, p1, p2, p3, p4⟩, pbo, he, hpa, hB⟩
      unfold Pt.v at he
      dsimp only at he hpa
      subst he
      have S7 := Lib.hid ((S6.out.below hB).alloc (.cells #[.int .i64 p0, .int .i64 p1, .int .i64 p2, .int .i64 p3, .int .i64 p4] 29))
      have BP7 := Lib.hid (box_new w7 #[.int .i64 p0, .int .i64 p1, .int .i64 p2, .int .i64 p3, .int .i64 p4] 29)
      have hpin : inB p0 0 63 = true := by
        rcases hpa with rfl | rfl
        · exact inB_mk (by omega) (by omega)
        · rfl
      have hx7 := (S6.out.below hB).box.lt
      clear hB hpa S6
      go_upto_region 9 with fail
      generalize hW8 : w7.alloc (.cells #[.int .i64 p0, .int .i64 p1, .int .i64 p2, .int .i64 p3, .int .i64 p4] 29) = W8 at *
      have bx8 := S7.out.box.cell
      have bl8 := S7.out.box.lt
      have hb8 := S7.out.hb
      have hsz8 : w7.heap.size < W8.heap.size := BP7.out.lt
      clear hW8
      go_region_held3 (fun w' => w'.cell? ⟨w1.heap.size, 0, none⟩ = some (.slice (some ⟨D, 0, none⟩) 3 cap)) (first | exact (S9.out.setX).box.cell 0 | exact (S9.out).box.cell 0 | exact (S7.out.box.below (by (repeat (first | assumption | exact Below.refl _ _ | refine below_alloc ?_ _ | refine Below.drew ?_ | refine below_drewN ?_ _ | refine below_below ?_ (by assumption))))).cell 0)
        (first
          | (go_at_call 66; refine Calls.mono (l4Cut_any _ tx hts1 (by omega)) ?_; rintro e w8 ⟨cb, c0, c1, c2, rfl, hc, hc0, hc1, hc2, _, hB8⟩; have HC9 := Lib.hid hc; (try (have hBa : Below (W8.alloc (.cells #[.bool true, .bool true, .bool true] 4)).heap.size (W8.alloc (.cells #[.bool true, .bool true, .bool true] 4)) w8 := ⟨hB8.os, hB8.tape, hB8.output, hB8.size, hB8.block⟩; have BW9 := Lib.hid (BoxAt.below (box_new W8 _ _) hBa))); clear hc)
          | (have _g := HC9; go_at_call 65; clear _g; have HW9 : ∃ Wz, Wz = Wz := ⟨W8, rfl⟩; refine Calls.mono (l4Put_any _ w.heap.size m D cap xs a4 cb _ c0 c1 c2 (S7.out.ri.below hb8 (by (repeat (first | assumption | exact Below.refl _ _ | refine below_alloc ?_ _ | refine Below.drew ?_ | refine below_drewN ?_ _ | refine below_below ?_ (by assumption))))) HG.out (by omega) (by have := S7.out.hb; exact Nat.le_trans this (show Below W8.heap.size W8 _ from by (repeat (first | assumption | exact Below.refl _ _ | refine below_alloc ?_ _ | refine Below.drew ?_ | refine below_drewN ?_ _ | refine below_below ?_ (by assumption)))).size) ha64 (by first | exact HC9.out | exact HC9.out.alloc _ | exact (HC9.out.alloc _).drew | exact HC9.out.drew) hc0 hc1 hc2 (by first | exact box_new _ _ _ | exact (box_new _ _ _).drew | exact BW9.out | exact BW9.out.drew)) ?_; rintro e w9 ⟨ys, rfl, hri9, hng9, hkp9⟩; have S9 := Lib.hid ((S7.out.below (by (repeat (first | assumption | exact Below.refl _ _ | refine below_alloc ?_ _ | refine Below.drew ?_ | refine below_drewN ?_ _ | refine below_below ?_ (by assumption))))).put hri9 hkp9); have NG9 := Lib.hid hng9; have bx9 := S9.out.box.cell; have bf9 := S9.out.box.froz; have bl9 := S9.out.box.lt; have BP9 := Lib.hid ((BP7.out.below (by (repeat (first | assumption | exact Below.refl _ _ | refine below_alloc ?_ _ | refine Below.drew ?_ | refine below_drewN ?_ _ | refine below_below ?_ (by assumption))))).kp hkp9 (by simp; exact ptr_ne BP7.out S7.out.ri.tag)); clear hri9 hng9 hkp9))
      all_goals
        have S10 := Lib.hid S9.out.setX
        have BP10 := Lib.hid (BP9.out.set (p := ⟨w1.heap.size, 0, none⟩) (by dsimp only; omega) (.slice (some ⟨D, 0, none⟩) 3 cap))
        generalize hW10 : w9.setCell ⟨w1.heap.size, 0, none⟩ (.slice (some ⟨D, 0, none⟩) 3 cap) = W10 at *
        have bp10 := BP10.out.cell
        have bpl10 := BP10.out.lt
        have KA := Lib.hid (And.intro (show (l.length + 1) * 40 ≤ 140737488355328 by omega) (show l.length + 1 ≤ maxLen by unfold maxLen; omega))
        clear hW10 S9 S7 BP7 BP9 HC9 bx8 bx9 bf9
        go_wp2_with (at_builtin; refine wpList_app (base := w.heap.size) (xs := l) (ys := ([⟨p0, p1, p2, p3, p4⟩] : List Pt)) elP rfl _ _ rfl (by rfl) (S10.out.alloc _).own (by rfl) rfl (rd_onePAt W10 ⟨p0, p1, p2, p3, p4⟩ rfl) oneP KA.out.1 KA.out.2 (S10.out.alloc (.cells #[.int .i64 p0, .int .i64 p1, .int .i64 p2, .int .i64 p3, .int .i64 p4] 29)).hb ?_; intro v11 w11 ho11 hg11 ha11; have S11 := Lib.hid ((S10.out.alloc (.cells #[.int .i64 p0, .int .i64 p1, .int .i64 p2, .int .i64 p3, .int .i64 p4] 29)).app hpin ho11 hg11); clear ho11 hg11 ha11)
        refine Calls.mono (pick_nat _ _ _ _ S11.out.rs (by omega) (by omega) (by omega)) ?_
        rintro e w12 ⟨j12, rfl, hj12, hr12, hk12⟩
        have S12 := Lib.hid (S11.out.pick hr12 hk12)
        have hll : (l ++ [(⟨p0, p1, p2, p3, p4⟩ : Pt)]).length = l.length + 1 := by simp
        clear hr12 hk12 S11 S10 hj12 BP10 bp10 bpl10
        by_cases hz : (j12 : Int) = 0
        · have hz' : ((j12 : Int) == 0) = true := by simpa using hz
          have bx12 := S12.out.box.cell
          have bl12 := S12.out.box.lt
          clear hz
          go_wp2_with fail
          refine Calls.mono (l4Flush_any _ w.heap.size (m + 1) D cap ys S12.out.ri (by omega) S12.out.hb) ?_
          rintro e w13 ⟨zs, rfl, hri13, hg13, hss13⟩
          have S13 := Lib.hid (S12.out.ss hri13 hss13)
          have NG13 := Lib.hid (show ∀ z ∈ zs, z.g = false from fun z hz => by
            obtain ⟨y, hy, e⟩ := hg13 z hz
            rw [e]
            exact NG9.out y hy)
          have bx13 := S13.out.box.cell
          have bf13 := S13.out.box.froz
          have bl13 := S13.out.box.lt
          clear hri13 hg13 hss13 S12 bx12
          go_wp2_with fail
          go_roundw
          (case rel => exact ⟨k - 1, _, m + 1, zs, _, by go_num, by rw [hll]; omega, by omega, .inr (by rw [hll]; omega), by omega, by omega, NG13, Lib.hid S13.out.setX⟩)
          (case measure => simp [intOf]; omega)
        · have hz' : ((j12 : Int) == 0) = false := by simpa using hz
          clear hz
          go_wp2_with fail
          go_roundw
          (case rel => exact ⟨k - 1, _, m + 1, ys, _, by go_num, by rw [hll]; omega, by omega, .inr (by rw [hll]; omega), by omega, by omega, NG9, S12⟩)
          (case measure => simp [intOf]; omega)
    · obtain rfl : k = 0 := by omega
      have hl1 : 1 ≤ l.length := by omega
      clear HG
      go_wp2_with fail
      refine Calls.mono (pick_nat _ _ _ _ HS.out.rs (by omega) (by omega) (by omega)) ?_
      rintro e w3 ⟨j3, rfl, hj3, hr3, hk3⟩
      have S3 := Lib.hid (HS.out.pick hr3 hk3)
      have hj34 : (j3 : Int) < 4 := by simp at hj3; omega
      have hl5 : l.length ≤ 5 := by omega
      have hq1 : q + 1 ≤ p + 700 := by omega
      have hm5 : m ≤ 5 := by omega
      clear hr3 hk3 hj3 HS hone hkl hmk hq hlt
      obtain ⟨lg, lc, hv⟩ := own_block S3.out.own hl1
      subst hv
      have ND := Lib.hid (And.intro (show (Try.f70.name == "runtime.NumGoroutine") = false by kernel_rfl) (show Try.f70.body.isNone = false by kernel_rfl))
      obtain ⟨n, hn⟩ : ∃ n : Nat, n = l.length := ⟨_, rfl⟩
      have HNL := Lib.hid hn
      rw [← hn] at S3 hl1 hl5 ⊢
      clear hn
      go_upto_block 2 with fail

      go_cut [11, 12] from 59 (fun a b wx => ∃ (q9 m9 : Nat) (ys : List DA), q9 ≤ p + 760 ∧ p ≤ q9 ∧ Hid (RS w rb w1.heap.size q9 m9 D cap ys (.slice (some ⟨lg, 0, none⟩) n lc) l wx))
      case first =>
        by_cases hz0 : (j3 : Int) = 0
        · have e0 : ((j3 : Int) == 0) = true := by simpa using hz0
          have NL := Lib.hid (And.intro (show (Try.f68.name == "runtime.NumGoroutine") = false by kernel_rfl) (show Try.f68.body.isNone = false by kernel_rfl))
          clear hz0
          try rw [e0]
          go_wp2_with fail
          refine Calls.mono (pick_nat _ _ _ _ S3.out.rs (by omega) (by omega) (by omega)) ?_
          rintro e w4 ⟨j, rfl, hj, hr4, hk4⟩
          have S4 := Lib.hid (S3.out.pick hr4 hk4)
          have hj3 : j < 3 := by simpa using hj
          have hjI : (j : Int) < 3 := by omega
          have bx4 := S4.out.box.cell
          have bl4 := S4.out.box.lt
          have hb4 := S4.out.hb
          clear hr4 hk4 hj S3
          have hDl4 := S4.out.ri.lt
          go_wp2_with fail
          go_region_law (first
            | (refine step_callR (f := 68) (aa := #[]) (vs := #[]) (R := DNV true w4.drew) Try.func68 NL.out.1 NL.out.2 rfl rfl (by simp) ((diskLose_any w4.drew).mono fun e w' h => dn_v h) ?_; rintro v5 w5 ⟨⟨yC, ynC, ycC, yW, ynW, ycW, yg⟩, he, hrd, hi, hg, hB⟩; unfold DA.v at he; dsimp only at he hg; subst he; have S5 := Lib.hid (S4.out.drew.below hB); have bx5 := S5.out.box.cell; have bf5 := S5.out.box.froz; have bl5 := S5.out.box.lt; have HY5 := Lib.hid ((hi.lower (base' := w.heap.size) S4.out.drew.hb).more (Nat.zero_le m)); have hDl5 := S5.out.ri.lt; obtain ⟨_, _, _, d0, d1, d2, g0, g1, g2⟩ := S5.out.ri.at hj3; clear hrd hi hB hg))
          all_goals
            have HN := Lib.hid (S5.out.ri.set hj3 HY5.out)
            dsimp only at HN
            have S6 := Lib.hid (S5.out.ss HN.out.1 HN.out.2)
            clear S5 HN HY5
            go_wp2_with fail
            go_meet
            case rel => exact ⟨q + 1 + 1, _, _, by omega, by omega, S6⟩
        · have e0 : ((j3 : Int) == 0) = false := by simpa using hz0
          clear hz0
          try rw [e0]
          by_cases hz1 : (j3 : Int) = 1
          · have e1 : ((j3 : Int) == 1) = true := by simpa using hz1
            have NF := Lib.hid (And.intro (show (Try.f69.name == "runtime.NumGoroutine") = false by kernel_rfl) (show Try.f69.body.isNone = false by kernel_rfl))
            clear hz1
            go_wp2_with fail
            refine Calls.mono (pick_nat _ _ _ _ S3.out.rs (by omega) (by omega) (by omega)) ?_
            rintro e w4 ⟨j, rfl, hj, hr4, hk4⟩
            have S4 := Lib.hid (S3.out.pick hr4 hk4)
            have hj3 : j < 3 := by simpa using hj
            have hjI : (j : Int) < 3 := by omega
            have bx4 := S4.out.box.cell
            have bl4 := S4.out.box.lt
            have hb4 := S4.out.hb
            clear hr4 hk4 hj S3
            have hDl4 := S4.out.ri.lt
            obtain ⟨x, he, hdi, c0, c1, c2, f0, f1, f2⟩ := S4.out.ri.at hj3
            have HC := Lib.hid (fun W (hs : SS w.heap.size [] w4 W) => ((l3Flush_any W w.heap.size m x (hdi.ss hs) (by omega) (by have := hs.bel.size; omega)).mono fun e w' h => (show ∃ v, e = .returned v ∧ FlDV w.heap.size x.g W v w' from flD_v h)))
            obtain ⟨xC, xnC, xcC, xW, xnW, xcW, xg⟩ := x
            unfold DA.v at HC
            dsimp only at *
            clear he hdi
            go_wp2_with fail
            go_region_law (first
              | (refine step_callR (f := 69) (vs := #[.agg #[.slice xC xnC xcC, .slice xW xnW xcW, .bool xg]]) (R := FlDV w.heap.size xg w4.drew) Try.func69 NF.out.1 NF.out.2 rfl rfl (by simp [Act.eval, Act.put]) (HC.out _ (SS.refl.drew)) ?_; rintro v5 w5 ⟨⟨yC, ynC, ycC, yW, ynW, ycW, yg⟩, he, hi5, hg5, hs5⟩; unfold DA.v at he; dsimp only at he hg5; subst he; have hs6 : SS w.heap.size [] w4 w5 := SS.trans SS.refl.drew hs5; have S5 := Lib.hid (S4.out.ss (S4.out.ri.ss hs6) (hs6.more (by simp))); have bx5 := S5.out.box.cell; have bf5 := S5.out.box.froz; have bl5 := S5.out.box.lt; have HY5 := Lib.hid (hi5.more (Nat.zero_le m)); have hDl5 := S5.out.ri.lt; obtain ⟨_, _, _, d0, d1, d2, g0, g1, g2⟩ := S5.out.ri.at hj3; clear hs5 hs6 hi5 hg5))
            all_goals
              have HN := Lib.hid (S5.out.ri.set hj3 HY5.out)
              dsimp only at HN
              have S6 := Lib.hid (S5.out.ss HN.out.1 HN.out.2)
              clear S5 HN HY5
              generalize hW6 : ((w5.setCell ⟨D, j * 3, none⟩ (.slice yC ynC ycC)).setCell ⟨D, j * 3 + 1, none⟩ (.slice yW ynW ycW)).setCell ⟨D, j * 3 + 2, none⟩ (.bool yg) = W6 at *
              clear hW6 bx4 bl4 hDl4 c0 c1 c2 f0 f1 f2 bx5 bf5 bl5 hDl5 d0 d1 d2 g0 g1 g2 HC S4
              obtain ⟨x6, he6, hdi6, c0, _, _, f0, _, _⟩ := S6.out.ri.at hj3
              obtain ⟨cb, hC6, hcb, hst6⟩ := hdi6.c
              have HM6 := Lib.hid (And.intro (List.mem_of_getElem? he6) hC6)
              rw [hC6, hdi6.nC, hdi6.cC] at c0
              obtain ⟨a, ha, hlgl, hlg⟩ := rs_at0 S6.out HNL.out hl1
              have haI : (a : Int) < 64 := by omega
              have bx6 := S6.out.box.cell
              have bl6 := S6.out.box.lt
              have hDl6 := S6.out.ri.lt
              have hcl6 := hst6.tag.lt
              have hlI : (0 : Int) < (n : Int) := by omega
              have hlN : 0 < n := by omega
              clear hst6 hdi6 he6 hC6 hl1
              go_upto_region 20 with fail
              go_region_held3 (fun w' => w'.cell? ⟨w1.heap.size, 0, none⟩ = some (.slice (some ⟨D, 0, none⟩) 3 cap) ∧ w'.cell? ⟨D, j * 3, none⟩ = some (.slice (some ⟨cb, 0, none⟩) 64 64) ∧ w'.cell? ⟨lg, 0, none⟩ = some (.int .i64 (a : Int))) (first | exact HP8.out | exact HP7.out | exact ⟨bx6 0, c0, hlg⟩)
                (first
                  | (go_at_call 63; refine Calls.mono (l91Text_any _ rb _ 12 (S6.out.below (by (repeat (first | assumption | exact Below.refl _ _ | refine below_alloc ?_ _ | refine Below.drew ?_ | refine below_drewN ?_ _ | refine below_below ?_ (by assumption))))).rs (by omega) (by omega)) ?_; rintro e w7 ⟨s7, q7, rfl, hs7, hr7, hq7, hk7⟩; have S7 := Lib.hid ((S6.out.below (by (repeat (first | assumption | exact Below.refl _ _ | refine below_alloc ?_ _ | refine Below.drew ?_ | refine below_drewN ?_ _ | refine below_below ?_ (by assumption))))).pick hr7 hk7); have hst7 := (S7.out.ri.each _ HM6.out.1).str HM6.out.2; obtain ⟨s0, hs0, _, hf0⟩ := hst7.2.cell a ha; have HS7 := Lib.hid hst7; have bx7 := S7.out.box.cell; have bl7 := S7.out.box.lt; have hcl7 := hst7.2.tag.lt; have HP7 := Lib.hid (rs_keep S6.out (by (repeat (first | assumption | exact Below.refl _ _ | refine below_alloc ?_ _ | refine Below.drew ?_ | refine below_drewN ?_ _ | refine below_below ?_ (by assumption)))) hk7 hlgl (bx6 0) c0 hlg); have HP8 := Lib.hid (rs_keepS (a := a) (s := .string s7) S7.out hst7.2 HP7.out); clear hr7 hk7 hst7))
              all_goals
                have HSS := Lib.hid (SS.setS (base := w.heap.size) (ex := []) HS7.out.2 HS7.out.1 ha (s := s7) (by omega))
                have S8 := Lib.hid (S7.out.ss (S7.out.ri.ss HSS.out) (HSS.out.more (by simp)))
                clear HSS HS7 S7 S6 HP7 HP8
                go_wp2_with fail
                go_meet
                case rel => exact ⟨q + 1 + 1 + q7, _, _, by omega, by omega, S8⟩
          · have e1 : ((j3 : Int) == 1) = false := by simpa using hz1
            clear hz1
            by_cases hz2 : (j3 : Int) = 2
            · have e2 : ((j3 : Int) == 2) = true := by simpa using hz2
              have bx3 := S3.out.box.cell
              have bl3 := S3.out.box.lt
              clear hz2
              go_wp2_with fail
              refine Calls.mono (l4Flush_any _ w.heap.size m D cap xs S3.out.ri (by omega) S3.out.hb) ?_
              rintro e w4 ⟨zs, rfl, hri4, hg4, hss4⟩
              have S4 := Lib.hid (S3.out.ss hri4 hss4)
              have bx4 := S4.out.box.cell
              have bf4 := S4.out.box.froz
              have bl4 := S4.out.box.lt
              have S5 := Lib.hid S4.out.setX
              clear hri4 hg4 hss4 S3 bx3 S4
              go_wp2_with fail
              go_meet
              case rel => exact ⟨q + 1, _, _, by omega, by omega, S5⟩
            · have e2 : ((j3 : Int) == 2) = false := by simpa using hz2
              clear hz2
              go_wp2_with fail
              go_meet
              case rel => exact ⟨q + 1, _, _, by omega, by omega, S3⟩
      case rest =>
        clear S3
        obtain ⟨q9, m9, ys, hq9, hpq9, SZ⟩ := hcut
        have hnl := HNL.out
        subst hnl
        clear HNL
        go_wp2_with fail
        refine Calls.mono (pick_nat _ _ _ _ SZ.out.rs (by omega) (by omega) (by omega)) ?_
        rintro e wt ⟨jt, rfl, hjt, hrt, hkt⟩
        have ST := Lib.hid (SZ.out.pick hrt hkt)
        have tx := ST.out.box.cell
        have tf := ST.out.box.froz
        have tl := ST.out.box.lt
        have rx := ST.out.res.cell
        have rf := ST.out.res.froz
        have rl := ST.out.res.lt
        have hc3 := ST.out.ri.cap3.1
        have hcm := ST.out.ri.cap3.2
        have hxr := ST.out.neX.2.2
        clear hrt hkt hjt SZ
        by_cases hz0 : (jt : Int) = 0
        · have t0 : ((jt : Int) == 0) = true := by simpa using hz0
          have HE := Lib.hid (rd_end0 ST.out (p := p) (k := q9 + 1 - p) (by omega) (by omega) (by omega))
          clear hz0 ST
          go_wp2_with fail
          refine bodyPost_ret (v := .tuple #[.agg #[.slice (some ⟨D, 3, none⟩) 2 (cap - 1)], .slice (some ⟨lg, 0, none⟩) l.length lc]) (by simp [results, Try.results39, go_sem, tx, tl, rx, rl, hxr]) rfl ?_
          exact HE.out
        · by_cases hz1 : (jt : Int) = 1
          · have t0 : ((jt : Int) == 0) = false := by simpa using hz0
            have t1 : ((jt : Int) == 1) = true := by simpa using hz1
            have hDl := ST.out.ri.lt
            clear hz0 hz1
            go_wp2_with fail
            go_region_law (first
              | (refine step_callR (f := 70) (vs := #[.pointer (some ⟨rb, 0, none⟩)]) (R := DkV 2000 wt.drew rb (q9 + 1)) Try.func70 ND.out.1 ND.out.2 rfl rfl (by simp [Act.eval, Act.put]) ((l91Disk_any wt.drew rb (q9 + 1) ST.out.drew.rs (by omega)).mono fun e w' h => dkV h) ?_; rintro v5 w5 ⟨⟨yC, ynC, ycC, yW, ynW, ycW, yg⟩, d5, k5, he, hrd, hfC, hfW, hr5, hk5, hkp5⟩; unfold DA.v at he; dsimp only at he hfC hfW; subst he; have S5 := Lib.hid (ST.out.drew.pick hr5 hkp5); have bx5 := S5.out.box.cell; have bf5 := S5.out.box.froz; have bl5 := S5.out.box.lt; have HD5 := Lib.hid (And.intro hrd (And.intro hfC hfW)); have hDl5 := S5.out.ri.lt; obtain ⟨_, _, _, d0, d1, d2, g0, g1, g2⟩ := S5.out.ri.at (k := 1) (by omega); simp only [Nat.reduceMul, Nat.reduceAdd] at d0 d1 d2 g0 g1 g2; clear hrd hfC hfW hr5 hkp5))
            all_goals
              have r5 := S5.out.res.cell
              have r5f := S5.out.res.froz
              have r5l := S5.out.res.lt
              have n5 := S5.out.neX
              have n5a := n5.1
              have n5b := n5.2.1
              have n5c := n5.2.2
              have HE := Lib.hid (rd_end1 S5.out (p := p) (k := q9 + 1 + k5 - p) (by omega) (by omega) (by omega) HD5.out.1 HD5.out.2.1 HD5.out.2.2 hDl rl)
              dsimp only at HE
              have R6 := box_set3 S5.out.res n5b 3 4 5 (.slice yC ynC ycC) (.slice yW ynW ycW) (.bool yg)
              have X6 := box_set3 S5.out.box n5a 3 4 5 (.slice yC ynC ycC) (.slice yW ynW ycW) (.bool yg)
              have r6 := R6.cell
              have r6f := R6.froz
              have r6l := R6.lt
              have x6 := X6.cell
              clear ST S5 HD5 R6 X6 n5
              go_wp2_with fail
              refine bodyPost_ret (v := .tuple #[.agg #[.slice (some ⟨D, 0, none⟩) 3 cap], .slice (some ⟨lg, 0, none⟩) l.length lc]) (by simp [results, Try.results39, go_sem, r6, r6l, x6]) rfl ?_
              exact HE.out
          · have t0 : ((jt : Int) == 0) = false := by simpa using hz0
            have t1 : ((jt : Int) == 1) = false := by simpa using hz1
            have HE := Lib.hid (rd_end ST.out (p := p) (k := q9 + 1 - p) (by omega) (by omega) (by omega))
            clear hz0 hz1 ST
            go_wp2_with fail
            refine bodyPost_ret (v := .tuple #[.agg #[.slice (some ⟨D, 0, none⟩) 3 cap], .slice (some ⟨lg, 0, none⟩) l.length lc]) (by simp [results, Try.results39, go_sem, tx, tl, rx, rl, hxr]) rfl ?_
            exact HE.out

end Go.Proofs.Ytamljoffmkcbnaa
