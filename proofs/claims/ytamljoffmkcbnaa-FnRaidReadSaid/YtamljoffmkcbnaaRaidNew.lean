/- New disks: both texts. -/
import Derived.Test.YtamljoffmkcbnaaRaidMem
import Derived.Deep.RegionHeld3
import Derived.StillTailTactics
namespace Go.Proofs.Ytamljoffmkcbnaa
open Go.RowKit
set_option maxRecDepth 100000
set_option linter.unusedVariables false
set_option linter.unusedSimpArgs false

def blankD (g : Bool) : Dk := ⟨List.replicate 64 ⟨#[]⟩, [], g⟩
/-- A new disk. -/
def DN (g : Bool) (w : World) (e : Ending) (w' : World) : Prop := ∃ x : DA, e = .returned x.v ∧ DRd w' x (blankD g) ∧ DI w.heap.size 0 w' x ∧ x.g = g ∧ Below w.heap.size w w'

theorem dn_end {w w1 : World} {b : Nat} {W : Option Addr} {g : Bool} (ho : Own encS 1 9 w.heap.size w1 (.slice (some ⟨b, 0, none⟩) 64 64) (List.replicate 64 ⟨#[]⟩)) (hb : w.heap.size ≤ b) (hB : Below w.heap.size w w1) (hW : ∀ a, W = some a → w.heap.size ≤ a.block ∧ Tag w1 a.block 75) :
    DN g w (.returned (DA.v ⟨some ⟨b, 0, none⟩, 64, 64, W, 0, 0, g⟩)) w1 := by
  obtain ⟨A, c, e, h1, h2, h3, hr⟩ := ho.form
  injection e with e1 e2 e3
  subst e1
  refine ⟨_, rfl, ⟨hr, RdT.none_, by simp [blankD], rfl, Nat.le_refl _, Nat.le_refl _, (by show (64 : Nat) ≤ _; omega), (by show (0 : Nat) ≤ _; omega), rfl, fun s hs => ?_, fun x hx => (by simp [blankD] at hx)⟩,
    ⟨⟨b, rfl, hb, List.replicate 64 ⟨#[]⟩, ho.more (Nat.zero_le _), by simp, fun s hs => ?_⟩, rfl, rfl, ⟨[], RdT.none_, rfl, fun y hy => by cases hy⟩, Nat.le_refl _, (by show (0 : Nat) ≤ _; omega), Nat.le_refl _, hW⟩, rfl, hB⟩
  · have := List.eq_of_mem_replicate hs
    subst this
    show (0 : Nat) ≤ _
    omega
  · have := List.eq_of_mem_replicate hs
    subst this
    show (0 : Nat) ≤ _
    omega
/-- Behind writes into a block that was there: the result's own variable. -/
theorem own_kp0 {base b b0 n : Nat} {l : List ByteArray} {w w' : World} (h : Own encS 1 9 base w (.slice (some ⟨b, 0, none⟩) n n) l) (hK : Kp [b0] w w') (hb : b ≠ b0) : Own encS 1 9 base w' (.slice (some ⟨b, 0, none⟩) n n) l :=
  h.kp hK (fun k hk e => by simp [Value.ownBlock] at e; simp at hk; omega)
theorem kp_set3 (b0 : Nat) (w : World) (v0 v1 v2 : Value) : Kp [b0] w (((w.setCell ⟨b0, 0, none⟩ v0).setCell ⟨b0, 1, none⟩ v1).setCell ⟨b0, 2, none⟩ v2) :=
  (((Kp.refl [b0] w).setCell (.inl (by simp)) v0).setCell (.inl (by simp)) v1).setCell (.inl (by simp)) v2

theorem dn_lose {w w1 w2 : World} {x : DA} (hr : DRd w1 x (blankD false)) (hi : DI (w.heap.size + 1) 0 w1 x) (hK : Kp [w.heap.size] w1 w2) (hB : Below w.heap.size w w2) : DN true w (.returned (DA.v { x with g := true })) w2 := by
  have hi2 := hi.kp hK (by simp)
  obtain ⟨b, hC, hb, _⟩ := hi.c
  have hr2 := hr.kp hK (fun a ha hm => by rw [hC] at ha; cases ha; simp at hm; omega) (fun a ha hm => by have := (hi.tg a ha).1; simp at hm; omega)
  exact ⟨_, rfl, { hr2 with gn := rfl }, { (hi2.lower (Nat.le_succ _)) with c := ⟨b, hC, by omega, (by obtain ⟨b', hC', _, h⟩ := hi2.c; rw [hC] at hC'; cases hC'; exact h)⟩ }, rfl, hB⟩

set_option maxHeartbeats 1000000 in
theorem diskNew_any (w : World) : Calls Try.prog 20 #[] w (DN false w) := by
  obtain ⟨i0, hi, hz0, hz1, hz2⟩ := info_parts info_string
  go_enter Try.func20, Try.ntmps20
  go_wp2_with (at_make; refine wpList_make_full _ rfl _ _ 48 rfl (w.heap.size + 1) 9 i0 _ 1 Try.underlying48 hi hz0 hz1 .i64 .i64 _ _ 64 rfl rfl rfl rfl (by rw [hz2]; omega) (by unfold maxLen; omega) (by simp) ?_; intro w1 hown hgrow; have B1 := (Below.refl _ _).grown hgrow (Nat.le_refl _) (fun k hk => by cases hk); have BX := (box_new w #[.slice none 0 0, .slice none 0 0, .bool false] 51).below B1; have bx := BX.cell; have bf := BX.froz; have bl := BX.lt; rw [madeS] at hown; simp only [World.size_alloc] at hown; have HO := Lib.hid hown; have HB := Lib.hid (below_below (below_alloc (Below.refl w.heap.size w) _) B1); clear hown hgrow B1 BX)
  refine bodyPost_ret (v := .agg #[.slice (some ⟨w.heap.size + 1, 0, none⟩) 64 64, .slice none 0 0, .bool false]) (by simp [results, Try.results20, go_sem, bx, bl]) rfl ?_
  have K := kp_set3 w.heap.size w1 (.slice (some ⟨w.heap.size + 1, 0, none⟩) 64 64) (.slice none 0 0) (.bool false)
  have h1 : Own encS 1 9 w.heap.size w1 (.slice (some ⟨w.heap.size + 1, 0, none⟩) 64 64) (List.replicate 64 ⟨#[]⟩) := Own.more (base := w.heap.size + 1) (by unfold Own; rw [List.length_replicate]; exact HO.out) (by omega)
  exact dn_end (own_kp0 h1 K (by omega)) (by omega) (below_kp HB.out K (by simp)) (fun a ha => by cases ha)
set_option maxHeartbeats 1000000 in
theorem specDiskNew_any (w : World) : Calls Try.prog 21 #[] w (DN false w) := by
  obtain ⟨i0, hi, hz0, hz1, hz2⟩ := info_parts info_string
  go_enter Try.func21, Try.ntmps21
  go_wp2_with (at_make; refine wpList_make_full _ rfl _ _ 48 rfl (w.heap.size + 1) 9 i0 _ 1 Try.underlying48 hi hz0 hz1 .i64 .i64 _ _ 64 rfl rfl rfl rfl (by rw [hz2]; omega) (by unfold maxLen; omega) (by simp) ?_; intro w1 hown hgrow; have B1 := (Below.refl _ _).grown hgrow (Nat.le_refl _) (fun k hk => by cases hk); have BX := (box_new w #[.slice none 0 0, .slice none 0 0, .bool false] 51).below B1; have bx := BX.cell; have bf := BX.froz; have bl := BX.lt; rw [madeS] at hown; simp only [World.size_alloc] at hown; have HO := Lib.hid hown; have HB := Lib.hid (below_below (below_alloc (Below.refl w.heap.size w) _) B1); clear hown hgrow B1 BX)
  refine bodyPost_ret (v := .agg #[.slice (some ⟨w.heap.size + 1, 0, none⟩) 64 64, .slice (some ⟨w1.heap.size, 0, none⟩) 0 0, .bool false]) (by simp [results, Try.results21, go_sem, bx, bl]) rfl ?_
  have K := (kp_set3 w.heap.size w1 (.slice (some ⟨w.heap.size + 1, 0, none⟩) 64 64) (.slice (some ⟨w1.heap.size, 0, none⟩) 0 0) (.bool false)).alloc (.cells #[] 75)
  have h1 : Own encS 1 9 w.heap.size w1 (.slice (some ⟨w.heap.size + 1, 0, none⟩) 64 64) (List.replicate 64 ⟨#[]⟩) := Own.more (base := w.heap.size + 1) (by unfold Own; rw [List.length_replicate]; exact HO.out) (by omega)
  refine dn_end (own_kp0 h1 K (by omega)) (by omega) (below_kp HB.out K (by simp)) (fun a ha => ?_)
  cases ha
  refine ⟨HB.out.size, ?_⟩
  have := Tag.box (box_new (((w1.setCell ⟨w.heap.size, 0, none⟩ (.slice (some ⟨w.heap.size + 1, 0, none⟩) 64 64)).setCell ⟨w.heap.size, 1, none⟩ (.slice (some ⟨w1.heap.size, 0, none⟩) 0 0)).setCell ⟨w.heap.size, 2, none⟩ (.bool false)) #[] 75)
  simpa only [World.size_setCell] using this
set_option maxHeartbeats 1000000 in
theorem diskLose_any (w : World) : Calls Try.prog 68 #[] w (DN true w) := by
  have HD := Lib.hid (fun W => specDiskNew_any W)
  go_enter Try.func68, Try.ntmps68
  go_wp2_with fail
  refine Calls.mono (HD.out _) ?_
  rintro e w1 ⟨⟨C, nC, cC, Wa, nW, cW, g⟩, he, hr, hi, hg, hB⟩
  unfold DA.v at he
  dsimp only at he hg
  subst he
  subst hg
  have BX := Lib.hid ((box_new w #[.slice none 0 0, .slice none 0 0, .bool false] 51).below hB)
  have HB := Lib.hid (below_below (below_alloc (Below.refl w.heap.size w) _) hB)
  have bx := BX.out.cell
  have bf := BX.out.froz
  have bl := BX.out.lt
  have hne : ¬ w1.heap.size = w.heap.size := by omega
  have hne2 : ¬ w.heap.size = w1.heap.size := by omega
  have HR := Lib.hid hr
  have HI := Lib.hid hi
  clear hr hi hB
  go_wp2_with fail
  refine bodyPost_ret (v := .agg #[.slice C nC cC, .slice Wa nW cW, .bool true]) (by simp [results, Try.results68, go_sem, bx, bl, hne, hne2]) rfl ?_
  have K := (kp_set3 w.heap.size w1 (.slice C nC cC) (.slice Wa nW cW) (.bool true)).alloc (.cells #[.slice C nC cC, .slice Wa nW cW, .bool true] 51)
  exact dn_lose HR.out (by have := HI.out; simp only [World.size_alloc] at this; exact this) K (below_kp HB.out K (by simp))

theorem rd_oneDk (w : World) (x : DA) : RdT encD 3 (w.alloc (.cells #[.slice x.C x.nC x.cC, .slice x.W x.nW x.cW, .bool x.g] 51)) (some ⟨w.heap.size, 0, none⟩) [x] := fun _ => ⟨w.heap.size, 0, rfl, by simp, fun i y hy j hj => by
  have : i = 0 := by
    rcases i with _ | i
    · rfl
    · simp at hy
  subst this
  simp at hy
  subst hy
  have hb := box_new w #[.slice x.C x.nC x.cC, .slice x.W x.nW x.cW, .bool x.g] 51
  rw [hb.cell]
  match j, hj with
  | 0, _ => rfl
  | 1, _ => rfl
  | 2, _ => rfl⟩
/-- A new disk, as a value. -/
def DNV (g : Bool) (w : World) (v : Value) (w' : World) : Prop := ∃ x : DA, v = x.v ∧ DRd w' x (blankD g) ∧ DI w.heap.size 0 w' x ∧ x.g = g ∧ Below w.heap.size w w'
theorem dn_v {g : Bool} {w w' : World} {e : Ending} (h : DN g w e w') : ∃ v, e = .returned v ∧ DNV g w v w' := by
  obtain ⟨x, he, h⟩ := h
  exact ⟨_, he, x, rfl, h⟩
/-- Three new disks. -/
def RN (w : World) (e : Ending) (w' : World) : Prop := ∃ D cap xs, e = .returned (.agg #[.slice (some ⟨D, 0, none⟩) 3 cap]) ∧ RI w.heap.size 0 w' D cap xs ∧ (∀ x ∈ xs, BI w.heap.size w' x) ∧ Below w.heap.size w w'

theorem rn_next {w w1 w4 : World} {xb rb c4 g4 B : Nat} {v r : Value} {xs : List DA} {x : DA} (hI : ∀ y ∈ xs, BI w.heap.size w1 y) (hr : DRd w1 x (blankD false)) (hi : DI B 0 w1 x) (hB : w.heap.size ≤ B) (hg : x.g = false) (hS : KS w1 w4) (hX : BoxAt w4 xb #[v] 25) (hR : BoxAt w4 rb #[r] 25) (hne : rb ≠ xb)
    (hO : Own encD 3 51 w.heap.size w4 (.slice (some ⟨g4, 0, none⟩) (xs ++ [x]).length c4) (xs ++ [x])) (hB4 : Below w.heap.size w w4) (hxb : w.heap.size ≤ xb) :
    BoxAt (w4.setCell ⟨xb, 0, none⟩ (.slice (some ⟨g4, 0, none⟩) (xs.length + 1) c4)) xb #[.slice (some ⟨g4, 0, none⟩) (xs.length + 1) c4] 25 ∧ BoxAt (w4.setCell ⟨xb, 0, none⟩ (.slice (some ⟨g4, 0, none⟩) (xs.length + 1) c4)) rb #[r] 25 ∧
    Own encD 3 51 w.heap.size (w4.setCell ⟨xb, 0, none⟩ (.slice (some ⟨g4, 0, none⟩) (xs.length + 1) c4)) (.slice (some ⟨g4, 0, none⟩) (xs.length + 1) c4) (xs ++ [x]) ∧ (∀ y ∈ xs ++ [x], BI w.heap.size (w4.setCell ⟨xb, 0, none⟩ (.slice (some ⟨g4, 0, none⟩) (xs.length + 1) c4)) y) ∧ Below w.heap.size w (w4.setCell ⟨xb, 0, none⟩ (.slice (some ⟨g4, 0, none⟩) (xs.length + 1) c4)) := by
  have hl : (xs ++ [x]).length = xs.length + 1 := by simp
  rw [hl] at hO
  have hs := hS.trans (KS.setX (j := 0) (u := .slice (some ⟨g4, 0, none⟩) (xs.length + 1) c4) (Tag.box hX) (by decide) (by decide))
  refine ⟨box_putB hX 0 _, hR.set (p := ⟨xb, 0, none⟩) hne _, ?_, fun y hy => ?_, below_set hB4 hxb _⟩
  · refine hO.kp ((Kp.refl [xb] w4).setCell (p := ⟨xb, 0, none⟩) (.inl (by simp)) _) (fun k hk e => ?_)
    simp [Value.ownBlock] at e hk
    subst e
    subst hk
    exact absurd ((own_tag hO).one (Tag.box hX)) (by decide)
  · rcases List.mem_append.1 hy with hy | hy
    · exact (hI y hy).ks hs
    · simp at hy
      subst hy
      exact BI.ks ⟨hr, hi.lower hB, hg⟩ hs

set_option maxHeartbeats 2000000 in
theorem raidNew_any (w : World) : Calls Try.prog 6 #[] w (RN w) := by
  have HD := Lib.hid (fun W => (diskNew_any W).mono fun e w' h => (show ∃ v, e = .returned v ∧ DNV false W v w' from dn_v h))
  have BX0 := Lib.hid (box_new (w.alloc (.cells #[.slice none 0 0] 25)) #[.slice none 0 0] 25)
  have BR0 := Lib.hid ((box_new w #[.slice none 0 0] 25).alloc (.cells #[.slice none 0 0] 25))
  have HB0 := Lib.hid (below_alloc (below_alloc (Below.refl w.heap.size w) (.cells #[.slice none 0 0] 25)) (.cells #[.slice none 0 0] 25))
  rw [World.size_alloc] at BX0
  go_enter Try.func6, Try.ntmps6
  go_wp2_with fail
  go_loopw [2] (fun i wr => ∃ (k : Nat) (v : Value) (xs : List DA), k ≤ 3 ∧ i = .int .i64 k ∧ Hid (BoxAt wr (w.heap.size + 1) #[v] 25) ∧ Hid (BoxAt wr w.heap.size #[.slice none 0 0] 25) ∧ Hid (Own encD 3 51 w.heap.size wr v xs) ∧ Hid (xs.length = k) ∧ Hid (∀ x ∈ xs, BI w.heap.size wr x) ∧ Hid (Below w.heap.size w wr)) (fun i _ => 3 - (intOf i).toNat)
  case atStart => exact ⟨0, _, [], by omega, rfl, BX0, BR0, Lib.hid Own.nil, Lib.hid rfl, Lib.hid (fun x hx => by cases hx), HB0⟩
  case round =>
    clear BX0 BR0 HB0
    obtain ⟨k, v, xs, hk, rfl, HX, HR, HO, HL, HI, HB⟩ := hrel
    have bx := HX.out.cell
    have bf := HX.out.froz
    have bl := HX.out.lt
    by_cases hlt : k < 3
    · have k2 : IntKind.i64.wrap ((k : Int) + 1) = (k : Int) + 1 := IntWalk.i64_in _ (by omega)
      have NM := Lib.hid (And.intro (show (Try.f20.name == "runtime.NumGoroutine") = false by kernel_rfl) (show Try.f20.body.isNone = false by kernel_rfl))
      have KA := Lib.hid (And.intro (show (xs.length + 1) * 56 ≤ 140737488355328 by have := HL.out; omega) (show xs.length + 1 ≤ maxLen by have := HL.out; unfold maxLen; omega))
      go_wp2_with fail
      go_region_law (first
        | (refine step_appR (base := w.heap.size) (xs := xs) (ys := ([⟨C, nC, cC, Wa, nW, cW, false⟩] : List DA)) elD rfl (.tmp 5) (.tmp 7) (by rfl) (by rfl) ?own (by rfl) (by rfl) ?rd oneD KA.out.1 KA.out.2 ?bs ?_; (case own => exact HO1.out.below (by (repeat (first | assumption | exact Below.refl _ _ | refine below_alloc ?_ _ | refine Below.drew ?_ | refine below_drewN ?_ _ | refine below_below ?_ (by assumption))))); (case rd => exact (rd_oneDk w1 ⟨C, nC, cC, Wa, nW, cW, false⟩).below (by (repeat (first | assumption | exact Below.refl _ _ | refine below_alloc ?_ _ | refine Below.drew ?_ | refine below_drewN ?_ _ | refine below_below ?_ (by assumption))))); (case bs => exact (show Below w.heap.size w _ from by refine below_below HB1.out ?_; (repeat (first | assumption | exact Below.refl _ _ | refine below_alloc ?_ _ | refine Below.drew ?_ | refine below_drewN ?_ _ | refine below_below ?_ (by assumption)))).size); intro v4 w4 ho4 hb4 hg4 ha4; obtain ⟨g4, cap4, rfl⟩ := own_block ho4 (by simp); have HO4 := Lib.hid ho4; have BX4 := Lib.hid ((HX1.out.below (by (repeat (first | assumption | exact Below.refl _ _ | refine below_alloc ?_ _ | refine Below.drew ?_ | refine below_drewN ?_ _ | refine below_below ?_ (by assumption))))).grownT (HO1.out.below (by (repeat (first | assumption | exact Below.refl _ _ | refine below_alloc ?_ _ | refine Below.drew ?_ | refine below_drewN ?_ _ | refine below_below ?_ (by assumption))))) hg4 (by decide)); have BR4 := Lib.hid ((HR1.out.below (by (repeat (first | assumption | exact Below.refl _ _ | refine below_alloc ?_ _ | refine Below.drew ?_ | refine below_drewN ?_ _ | refine below_below ?_ (by assumption))))).grownT (HO1.out.below (by (repeat (first | assumption | exact Below.refl _ _ | refine below_alloc ?_ _ | refine Below.drew ?_ | refine below_drewN ?_ _ | refine below_below ?_ (by assumption))))) hg4 (by decide)); have bx4 := BX4.out.cell; have bf4 := BX4.out.froz; have bl4 := BX4.out.lt; have HS4 := Lib.hid ((KS.below (w := w1) (by (repeat (first | assumption | exact Below.refl _ _ | refine below_alloc ?_ _ | refine Below.drew ?_ | refine below_drewN ?_ _ | refine below_below ?_ (by assumption))))).trans (KS.grown (HO1.out.below (by (repeat (first | assumption | exact Below.refl _ _ | refine below_alloc ?_ _ | refine Below.drew ?_ | refine below_drewN ?_ _ | refine below_below ?_ (by assumption))))) hg4 hb4.size (by decide) (by decide))); have HB4 := Lib.hid ((show Below w.heap.size w _ from by refine below_below HB1.out ?_; (repeat (first | assumption | exact Below.refl _ _ | refine below_alloc ?_ _ | refine Below.drew ?_ | refine below_drewN ?_ _ | refine below_below ?_ (by assumption)))).trans hb4); clear ho4 hg4 ha4)
        | (refine step_callR (f := 20) (aa := #[]) (vs := #[]) (R := DNV false wr.drew) Try.func20 NM.out.1 NM.out.2 rfl rfl (by simp) (HD.out _) ?_; rintro v1 w1 ⟨⟨C, nC, cC, Wa, nW, cW, g⟩, he, hr, hi, hg, hB⟩; unfold DA.v at he; dsimp only at he hg; subst he; subst hg; have hBw : Below wr.heap.size wr w1 := ⟨hB.os, hB.tape, hB.output, hB.size, hB.block⟩; have HO1 := Lib.hid (HO.out.below hBw); have HX1 := Lib.hid (HX.out.below hBw); have HR1 := Lib.hid (HR.out.below hBw); have HB1 := Lib.hid (below_below HB.out hBw); have bx1 := HX1.out.cell; have bl1 := HX1.out.lt; have HI1 := Lib.hid (And.intro hr hi); clear hr hi))
      all_goals go_wp2_with fail
      all_goals
        have HN := Lib.hid (rn_next (fun y hy => (HI.out y hy).ks (KS.below hBw)) HI1.out.1 HI1.out.2 HB.out.size rfl HS4.out BX4.out BR4.out (by omega) HO4.out HB4.out (by omega))
        clear HI HI1 HS4 HB4 HO4
        go_roundw
        (case rel => exact ⟨k + 1, _, _, by omega, by go_num, Lib.hid HN.out.1, Lib.hid HN.out.2.1, Lib.hid HN.out.2.2.1, Lib.hid (by simp; exact HL.out), Lib.hid HN.out.2.2.2.1, Lib.hid HN.out.2.2.2.2⟩)
        (case measure => simp [intOf]; omega)
    · obtain rfl : k = 3 := by omega
      obtain ⟨g, cap, rfl⟩ := own_block HO.out (by rw [HL.out]; omega)
      have br := HR.out.cell
      have brf := HR.out.froz
      have brl := HR.out.lt
      have HP := Lib.hid (show RN w (.returned (.agg #[.slice (some ⟨g, 0, none⟩) xs.length cap])) (wr.setCell ⟨w.heap.size, 0, none⟩ (.slice (some ⟨g, 0, none⟩) xs.length cap)) by
        have hs := KS.setX (w := wr) (b := w.heap.size) (j := 0) (u := .slice (some ⟨g, 0, none⟩) xs.length cap) (Tag.box HR.out) (by decide) (by decide)
        have hO := HO.out.kp ((Kp.refl [w.heap.size] wr).setCell (p := ⟨w.heap.size, 0, none⟩) (.inl (by simp)) (.slice (some ⟨g, 0, none⟩) xs.length cap)) (fun k hk e => by
          simp [Value.ownBlock] at e hk
          subst e
          subst hk
          exact absurd ((own_tag HO.out).one (Tag.box HR.out)) (by decide))
        have e3 : Value.slice (some ⟨g, 0, none⟩) 3 cap = .slice (some ⟨g, 0, none⟩) xs.length cap := by rw [HL.out]
        have hO3 : Own encD 3 51 w.heap.size (wr.setCell ⟨w.heap.size, 0, none⟩ (.slice (some ⟨g, 0, none⟩) xs.length cap)) (.slice (some ⟨g, 0, none⟩) 3 cap) xs := by rw [e3]; exact hO
        refine ⟨g, cap, xs, by rw [HL.out], ⟨hO3, HL.out, fun x hx => ((HI.out x hx).ks hs).2.1⟩, fun x hx => (HI.out x hx).ks hs, below_set HB.out (by dsimp only; omega) _⟩)
      clear HI HO HL hlt hk
      generalize xs.length = n at *
      go_wp2_with fail
      refine bodyPost_ret (v := .agg #[.slice (some ⟨g, 0, none⟩) n cap]) (by simp [results, Try.results6, go_sem, br, brl]) rfl ?_
      exact HP.out
set_option maxHeartbeats 2000000 in
theorem specRaidNew_any (w : World) : Calls Try.prog 7 #[] w (RN w) := by
  have HD := Lib.hid (fun W => (specDiskNew_any W).mono fun e w' h => (show ∃ v, e = .returned v ∧ DNV false W v w' from dn_v h))
  have BX0 := Lib.hid (box_new ((w.alloc (.cells #[.slice none 0 0] 25)).alloc (.cells #[] 51)) #[.slice (some ⟨w.heap.size + 1, 0, none⟩) 0 0] 25)
  have BR0 := Lib.hid (((box_new w #[.slice none 0 0] 25).alloc (.cells #[] 51)).alloc (.cells #[.slice (some ⟨w.heap.size + 1, 0, none⟩) 0 0] 25))
  have HB0 := Lib.hid (below_alloc (below_alloc (below_alloc (Below.refl w.heap.size w) (.cells #[.slice none 0 0] 25)) (.cells #[] 51)) (.cells #[.slice (some ⟨w.heap.size + 1, 0, none⟩) 0 0] 25))
  have OO := Own.empty (enc := encD) (sz := 3) (T := 51) (base := w.heap.size) (w := w.alloc (.cells #[.slice none 0 0] 25)) (by simp)
  have OO1 := OO.below (below_alloc (Below.refl _ _) (.cells #[.slice (some ⟨w.heap.size + 1, 0, none⟩) 0 0] 25))
  rw [World.size_alloc] at OO1
  have O0 := Lib.hid OO1
  clear OO OO1
  simp only [World.size_alloc] at BX0
  go_enter Try.func7, Try.ntmps7
  go_wp2_with fail
  go_loopw [2] (fun i wr => ∃ (k : Nat) (v : Value) (xs : List DA), k ≤ 3 ∧ i = .int .i64 k ∧ Hid (BoxAt wr (w.heap.size + 1 + 1) #[v] 25) ∧ Hid (BoxAt wr w.heap.size #[.slice none 0 0] 25) ∧ Hid (Own encD 3 51 w.heap.size wr v xs) ∧ Hid (xs.length = k) ∧ Hid (∀ x ∈ xs, BI w.heap.size wr x) ∧ Hid (Below w.heap.size w wr)) (fun i _ => 3 - (intOf i).toNat)
  case atStart => exact ⟨0, _, [], by omega, rfl, BX0, BR0, O0, Lib.hid rfl, Lib.hid (fun x hx => by cases hx), HB0⟩
  case round =>
    clear BX0 BR0 HB0 O0
    obtain ⟨k, v, xs, hk, rfl, HX, HR, HO, HL, HI, HB⟩ := hrel
    have bx := HX.out.cell
    have bf := HX.out.froz
    have bl := HX.out.lt
    by_cases hlt : k < 3
    · have k2 : IntKind.i64.wrap ((k : Int) + 1) = (k : Int) + 1 := IntWalk.i64_in _ (by omega)
      have NM := Lib.hid (And.intro (show (Try.f21.name == "runtime.NumGoroutine") = false by kernel_rfl) (show Try.f21.body.isNone = false by kernel_rfl))
      have KA := Lib.hid (And.intro (show (xs.length + 1) * 56 ≤ 140737488355328 by have := HL.out; omega) (show xs.length + 1 ≤ maxLen by have := HL.out; unfold maxLen; omega))
      go_wp2_with fail
      go_region_law (first
        | (refine step_appR (base := w.heap.size) (xs := xs) (ys := ([⟨C, nC, cC, Wa, nW, cW, false⟩] : List DA)) elD rfl (.tmp 10) (.tmp 12) (by rfl) (by rfl) ?own (by rfl) (by rfl) ?rd oneD KA.out.1 KA.out.2 ?bs ?_; (case own => exact HO1.out.below (by (repeat (first | assumption | exact Below.refl _ _ | refine below_alloc ?_ _ | refine Below.drew ?_ | refine below_drewN ?_ _ | refine below_below ?_ (by assumption))))); (case rd => exact (rd_oneDk w1 ⟨C, nC, cC, Wa, nW, cW, false⟩).below (by (repeat (first | assumption | exact Below.refl _ _ | refine below_alloc ?_ _ | refine Below.drew ?_ | refine below_drewN ?_ _ | refine below_below ?_ (by assumption))))); (case bs => exact (show Below w.heap.size w _ from by refine below_below HB1.out ?_; (repeat (first | assumption | exact Below.refl _ _ | refine below_alloc ?_ _ | refine Below.drew ?_ | refine below_drewN ?_ _ | refine below_below ?_ (by assumption)))).size); intro v4 w4 ho4 hb4 hg4 ha4; obtain ⟨g4, cap4, rfl⟩ := own_block ho4 (by simp); have HO4 := Lib.hid ho4; have BX4 := Lib.hid ((HX1.out.below (by (repeat (first | assumption | exact Below.refl _ _ | refine below_alloc ?_ _ | refine Below.drew ?_ | refine below_drewN ?_ _ | refine below_below ?_ (by assumption))))).grownT (HO1.out.below (by (repeat (first | assumption | exact Below.refl _ _ | refine below_alloc ?_ _ | refine Below.drew ?_ | refine below_drewN ?_ _ | refine below_below ?_ (by assumption))))) hg4 (by decide)); have BR4 := Lib.hid ((HR1.out.below (by (repeat (first | assumption | exact Below.refl _ _ | refine below_alloc ?_ _ | refine Below.drew ?_ | refine below_drewN ?_ _ | refine below_below ?_ (by assumption))))).grownT (HO1.out.below (by (repeat (first | assumption | exact Below.refl _ _ | refine below_alloc ?_ _ | refine Below.drew ?_ | refine below_drewN ?_ _ | refine below_below ?_ (by assumption))))) hg4 (by decide)); have bx4 := BX4.out.cell; have bf4 := BX4.out.froz; have bl4 := BX4.out.lt; have HS4 := Lib.hid ((KS.below (w := w1) (by (repeat (first | assumption | exact Below.refl _ _ | refine below_alloc ?_ _ | refine Below.drew ?_ | refine below_drewN ?_ _ | refine below_below ?_ (by assumption))))).trans (KS.grown (HO1.out.below (by (repeat (first | assumption | exact Below.refl _ _ | refine below_alloc ?_ _ | refine Below.drew ?_ | refine below_drewN ?_ _ | refine below_below ?_ (by assumption))))) hg4 hb4.size (by decide) (by decide))); have HB4 := Lib.hid ((show Below w.heap.size w _ from by refine below_below HB1.out ?_; (repeat (first | assumption | exact Below.refl _ _ | refine below_alloc ?_ _ | refine Below.drew ?_ | refine below_drewN ?_ _ | refine below_below ?_ (by assumption)))).trans hb4); clear ho4 hg4 ha4)
        | (refine step_callR (f := 21) (aa := #[]) (vs := #[]) (R := DNV false wr.drew) Try.func21 NM.out.1 NM.out.2 rfl rfl (by simp) (HD.out _) ?_; rintro v1 w1 ⟨⟨C, nC, cC, Wa, nW, cW, g⟩, he, hr, hi, hg, hB⟩; unfold DA.v at he; dsimp only at he hg; subst he; subst hg; have hBw : Below wr.heap.size wr w1 := ⟨hB.os, hB.tape, hB.output, hB.size, hB.block⟩; have HO1 := Lib.hid (HO.out.below hBw); have HX1 := Lib.hid (HX.out.below hBw); have HR1 := Lib.hid (HR.out.below hBw); have HB1 := Lib.hid (below_below HB.out hBw); have bx1 := HX1.out.cell; have bl1 := HX1.out.lt; have HI1 := Lib.hid (And.intro hr hi); clear hr hi))
      all_goals go_wp2_with fail
      all_goals
        have HN := Lib.hid (rn_next (fun y hy => (HI.out y hy).ks (KS.below hBw)) HI1.out.1 HI1.out.2 HB.out.size rfl HS4.out BX4.out BR4.out (by omega) HO4.out HB4.out (by omega))
        clear HI HI1 HS4 HB4 HO4
        go_roundw
        (case rel => exact ⟨k + 1, _, _, by omega, by go_num, Lib.hid HN.out.1, Lib.hid HN.out.2.1, Lib.hid HN.out.2.2.1, Lib.hid (by simp; exact HL.out), Lib.hid HN.out.2.2.2.1, Lib.hid HN.out.2.2.2.2⟩)
        (case measure => simp [intOf]; omega)
    · obtain rfl : k = 3 := by omega
      obtain ⟨g, cap, rfl⟩ := own_block HO.out (by rw [HL.out]; omega)
      have br := HR.out.cell
      have brf := HR.out.froz
      have brl := HR.out.lt
      have HP := Lib.hid (show RN w (.returned (.agg #[.slice (some ⟨g, 0, none⟩) xs.length cap])) (wr.setCell ⟨w.heap.size, 0, none⟩ (.slice (some ⟨g, 0, none⟩) xs.length cap)) by
        have hs := KS.setX (w := wr) (b := w.heap.size) (j := 0) (u := .slice (some ⟨g, 0, none⟩) xs.length cap) (Tag.box HR.out) (by decide) (by decide)
        have hO := HO.out.kp ((Kp.refl [w.heap.size] wr).setCell (p := ⟨w.heap.size, 0, none⟩) (.inl (by simp)) (.slice (some ⟨g, 0, none⟩) xs.length cap)) (fun k hk e => by
          simp [Value.ownBlock] at e hk
          subst e
          subst hk
          exact absurd ((own_tag HO.out).one (Tag.box HR.out)) (by decide))
        have e3 : Value.slice (some ⟨g, 0, none⟩) 3 cap = .slice (some ⟨g, 0, none⟩) xs.length cap := by rw [HL.out]
        have hO3 : Own encD 3 51 w.heap.size (wr.setCell ⟨w.heap.size, 0, none⟩ (.slice (some ⟨g, 0, none⟩) xs.length cap)) (.slice (some ⟨g, 0, none⟩) 3 cap) xs := by rw [e3]; exact hO
        refine ⟨g, cap, xs, by rw [HL.out], ⟨hO3, HL.out, fun x hx => ((HI.out x hx).ks hs).2.1⟩, fun x hx => (HI.out x hx).ks hs, below_set HB.out (by dsimp only; omega) _⟩)
      clear HI HO HL hlt hk
      generalize xs.length = n at *
      go_wp2_with fail
      refine bodyPost_ret (v := .agg #[.slice (some ⟨g, 0, none⟩) n cap]) (by simp [results, Try.results7, go_sem, br, brl]) rfl ?_
      exact HP.out

end Go.Proofs.Ytamljoffmkcbnaa
