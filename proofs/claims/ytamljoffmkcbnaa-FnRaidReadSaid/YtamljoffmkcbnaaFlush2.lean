/- Disks flushed by the program: one, all. -/
import Derived.Test.YtamljoffmkcbnaaFlush
namespace Go.Proofs.Ytamljoffmkcbnaa
open Go.RowKit Go.Sort
set_option maxRecDepth 100000
set_option linter.unusedVariables false
set_option linter.unusedSimpArgs false

theorem ks_set3 {w : World} {b : Nat} {cs : Array Value} (h : BoxAt w b cs 51) (v0 v1 v2 : Value) : KS w (((w.setCell ⟨b, 0, none⟩ v0).setCell ⟨b, 1, none⟩ v1).setCell ⟨b, 2, none⟩ v2) := by
  have t0 := Tag.box h
  have s1 := KS.setX (j := 0) (u := v0) t0 (by decide) (by decide)
  have s2 := KS.setX (j := 1) (u := v1) (t0.set b 0 v0) (by decide) (by decide)
  have s3 := KS.setX (j := 2) (u := v2) ((t0.set b 0 v0).set b 1 v1) (by decide) (by decide)
  exact (s1.trans s2).trans s3

set_option maxHeartbeats 1000000 in
theorem diskFlush_any (w : World) (x : DA) (d : Dk) (h : DRd w x d) (hok : diskB d = true) : Calls Try.prog 43 #[x.v] w (DF w d) := by
  have HD := Lib.hid (fun W (hB : Below w.heap.size w W) => (by have := diskOk_any W x d (h.below hB); rw [hok] at this; exact this))
  have HS := Lib.hid (fun W (hB : Below w.heap.size w W) => settle_any W x d (h.below hB) hok)
  clear h hok
  obtain ⟨C, nC, cC, Wa, nW, cW, g⟩ := x
  unfold DA.v at *
  dsimp only at *
  have HB0 := Lib.hid (below_alloc (below_alloc (Below.refl w.heap.size w) (.cells #[.slice C nC cC, .slice Wa nW cW, .bool g] 51)) (.cells #[.slice none 0 0, .slice none 0 0, .bool false] 51))
  have BX0 := Lib.hid ((box_new w #[.slice C nC cC, .slice Wa nW cW, .bool g] 51).alloc (.cells #[.slice none 0 0, .slice none 0 0, .bool false] 51))
  have BR0 := box_new (w.alloc (.cells #[.slice C nC cC, .slice Wa nW cW, .bool g] 51)) #[.slice none 0 0, .slice none 0 0, .bool false] 51
  rw [World.size_alloc] at BR0
  replace BR0 := Lib.hid BR0
  go_enter Try.func43, Try.ntmps43
  go_wp2_with fail
  refine Calls.mono (HD.out _ HB0.out) ?_
  rintro e w1 ⟨rfl, hB⟩
  have BX1 := Lib.hid (BX0.out.below hB)
  have BR1 := Lib.hid (BR0.out.below hB)
  have HB1 := Lib.hid (below_below HB0.out hB)
  have bx := BX1.out.cell
  have bl := BX1.out.lt
  clear hB BX0 BR0 HB0 HD
  go_wp2_with fail
  refine Calls.mono (HS.out _ HB1.out) ?_
  rintro e w2 ⟨⟨yC, ynC, ycC, yW, ynW, ycW, yg⟩, he, hf, hB⟩
  unfold DA.v at he
  dsimp only at he
  subst he
  have BR2 := Lib.hid (BR1.out.below hB)
  have HB2 := Lib.hid (below_below HB1.out hB)
  have HF := Lib.hid hf
  have br := BR2.out.cell
  have brf := BR2.out.froz
  have brl := BR2.out.lt
  clear hB hf bx BX1 BR1 HB1
  go_wp2_with fail
  refine bodyPost_ret (v := .agg #[.slice yC ynC ycC, .slice yW ynW ycW, .bool yg]) (by simp [results, Try.results43, go_sem, br, brl]) rfl ?_
  exact ⟨⟨yC, ynC, ycC, yW, ynW, ycW, yg⟩, rfl, HF.out.ks (ks_set3 BR2.out _ _ _), below_kp HB2.out (kp_set3 _ _ _ _ _) (by simp)⟩

def DFT (w : World) (d : Dk) (e : Ending) (w' : World) : Prop := ∃ x : DA, e = .returned (.tuple #[x.v, .bool true]) ∧ FD w' x d ∧ Below w.heap.size w w'
set_option maxHeartbeats 1000000 in
theorem raidFlushC_any (w : World) (i : Int) (x : DA) (d : Dk) (h : DRd w x d) (hok : diskB d = true) : Calls Try.prog 42 #[.int .i64 i, x.v] w (DFT w d) := by
  have HS := Lib.hid (fun W (hB : Below w.heap.size w W) => diskFlush_any W x d (h.below hB) hok)
  clear h hok
  obtain ⟨C, nC, cC, Wa, nW, cW, g⟩ := x
  unfold DA.v at *
  dsimp only at *
  have HB0 := Lib.hid (below_alloc (below_alloc (Below.refl w.heap.size w) (.cells #[.slice C nC cC, .slice Wa nW cW, .bool g] 51)) (.cells #[.slice none 0 0, .slice none 0 0, .bool false] 51))
  have BR0 := box_new (w.alloc (.cells #[.slice C nC cC, .slice Wa nW cW, .bool g] 51)) #[.slice none 0 0, .slice none 0 0, .bool false] 51
  rw [World.size_alloc] at BR0
  replace BR0 := Lib.hid BR0
  go_enter Try.func42, Try.ntmps42
  go_wp2_with fail
  refine Calls.mono (HS.out _ HB0.out) ?_
  rintro e w2 ⟨⟨yC, ynC, ycC, yW, ynW, ycW, yg⟩, he, hf, hB⟩
  unfold DA.v at he
  dsimp only at he
  subst he
  have BR2 := Lib.hid (BR0.out.below hB)
  have HB2 := Lib.hid (below_below HB0.out hB)
  have HF := Lib.hid hf
  have br := BR2.out.cell
  have brf := BR2.out.froz
  have brl := BR2.out.lt
  clear hB hf BR0 HB0
  go_wp2_with fail
  refine bodyPost_ret (v := .tuple #[.agg #[.slice yC ynC ycC, .slice yW ynW ycW, .bool yg], .bool true]) (by simp [results, Try.results42, go_sem, br, brl]) rfl ?_
  exact ⟨⟨yC, ynC, ycC, yW, ynW, ycW, yg⟩, rfl, HF.out.ks (ks_set3 BR2.out _ _ _), below_kp HB2.out (kp_set3 _ _ _ _ _) (by simp)⟩

theorem rd_oneDkAt (w : World) (x : DA) {k : Nat} (h : k = w.heap.size) : RdT encD 3 (w.alloc (.cells #[.slice x.C x.nC x.cC, .slice x.W x.nW x.cW, .bool x.g] 51)) (some ⟨k, 0, none⟩) [x] := by
  subst h
  exact rd_oneDk w x
/-- The disks flushed so far. -/
def FDs (w : World) (ds : List Dk) (ys : List DA) : Prop := ∀ (i : Nat) (y : DA), ys[i]? = some y → ∃ d, ds[i]? = some d ∧ FD w y d
theorem FDs.ks {w w' : World} {ds : List Dk} {ys : List DA} (h : FDs w ds ys) (hs : KS w w') : FDs w' ds ys := fun i y hy => by
  obtain ⟨d, h1, h2⟩ := h i y hy
  exact ⟨d, h1, h2.ks hs⟩
theorem FDs.snoc {w : World} {ds : List Dk} {ys : List DA} {y : DA} {d : Dk} (h : FDs w ds ys) (hd : ds[ys.length]? = some d) (hr : FD w y d) : FDs w ds (ys ++ [y]) := fun i x hx => by
  by_cases hi : i < ys.length
  · rw [List.getElem?_append_left hi] at hx
    exact h i x hx
  · rcases (show i = ys.length ∨ ys.length < i by omega) with rfl | hgt
    · rw [List.getElem?_append_right (Nat.le_refl _), Nat.sub_self] at hx
      simp at hx
      subst hx
      exact ⟨d, hd, hr⟩
    · rw [List.getElem?_eq_none (by simp; omega)] at hx
      cases hx

theorem ef_next {w w4 : World} {xb rb c4 g4 : Nat} {v r : Value} {xs : List DA} {x : DA} (hX : BoxAt w4 xb #[v] 25) (hR : BoxAt w4 rb #[r] 25) (hne : rb ≠ xb)
    (hO : Own encD 3 51 w.heap.size w4 (.slice (some ⟨g4, 0, none⟩) (xs ++ [x]).length c4) (xs ++ [x])) (hB4 : Below w.heap.size w w4) (hxb : w.heap.size ≤ xb) :
    BoxAt (w4.setCell ⟨xb, 0, none⟩ (.slice (some ⟨g4, 0, none⟩) (xs.length + 1) c4)) xb #[.slice (some ⟨g4, 0, none⟩) (xs.length + 1) c4] 25 ∧ BoxAt (w4.setCell ⟨xb, 0, none⟩ (.slice (some ⟨g4, 0, none⟩) (xs.length + 1) c4)) rb #[r] 25 ∧
    Own encD 3 51 w.heap.size (w4.setCell ⟨xb, 0, none⟩ (.slice (some ⟨g4, 0, none⟩) (xs.length + 1) c4)) (.slice (some ⟨g4, 0, none⟩) (xs.length + 1) c4) (xs ++ [x]) ∧ KS w4 (w4.setCell ⟨xb, 0, none⟩ (.slice (some ⟨g4, 0, none⟩) (xs.length + 1) c4)) ∧ Below w.heap.size w (w4.setCell ⟨xb, 0, none⟩ (.slice (some ⟨g4, 0, none⟩) (xs.length + 1) c4)) := by
  have hl : (xs ++ [x]).length = xs.length + 1 := by simp
  rw [hl] at hO
  refine ⟨box_putB hX 0 _, hR.set (p := ⟨xb, 0, none⟩) hne _, ?_, KS.setX (Tag.box hX) (by decide) (by decide), below_set hB4 hxb _⟩
  exact own_one hO ((Kp.refl [xb] w4).setCell (p := ⟨xb, 0, none⟩) (.inl (by simp)) _) (by simpa using own_ne hO hX (by decide))

/-- All disks, flushed. -/
def EF (w : World) (ds : List Dk) (e : Ending) (w' : World) : Prop := ∃ (D cap : Nat) (ys : List DA), e = .returned (.tuple #[.agg #[.slice (some ⟨D, 0, none⟩) 3 cap], .bool true]) ∧ ys.length = 3 ∧ Own encD 3 51 w.heap.size w' (.slice (some ⟨D, 0, none⟩) ys.length cap) ys ∧ FDs w' ds ys ∧ Below w.heap.size w w'
theorem ef_end {w : World} {base D cap : Nat} {ds : List Dk} {ys : List DA} (h3 : ds.length = 3) (hl : ys.length = 3) (ho : Own encD 3 51 base w (.slice (some ⟨D, 0, none⟩) ys.length cap) ys) (hf : FDs w ds ys) : RRd w (some ⟨D, 0, none⟩) cap ys (ds.map flushK) := by
  obtain ⟨A, c, e, h1, h2, h4, hr⟩ := ho.form
  injection e with e1 e2 e3
  subst e1
  subst e3
  exact ⟨hr, by rw [List.length_map, h3, hl], h1, h2, fun i y hy => by
    obtain ⟨d, g1, g2⟩ := hf i y hy
    exact ⟨flushK d, by rw [List.getElem?_map, g1]; rfl, g2.1⟩⟩

set_option maxHeartbeats 4000000 in
theorem each_any (w : World) (A : Option Addr) (cap : Nat) (xs : List DA) (ds : List Dk) (h : RRd w A cap xs ds) (hok : raidB ds = true) : Calls Try.prog 41 #[.agg #[.slice A 3 cap], .func (.func 42) #[] #[]] w (EF w ds) := by
  obtain ⟨h3, hds⟩ := raid_ok hok
  have hl : xs.length = 3 := by rw [← h.len]; exact h3
  have hc : 3 ≤ cap := by have := h.hc; omega
  have hm := h.mc
  have HR := Lib.hid h
  have HDS := Lib.hid hds
  have HL := Lib.hid hl
  have H3 := Lib.hid h3
  clear h hok h3 hds hl
  have HB0 := Lib.hid (below_alloc (below_alloc (below_alloc (Below.refl w.heap.size w) (.cells #[.slice A 3 cap] 25)) (.cells #[.slice none 0 0] 25)) (.cells #[.slice none 0 0] 25))
  have BR := box_new (w.alloc (.cells #[.slice A 3 cap] 25)) #[.slice none 0 0] 25
  rw [World.size_alloc] at BR
  have BR0 := Lib.hid (BR.alloc (.cells #[.slice none 0 0] 25))
  have BX := box_new ((w.alloc (.cells #[.slice A 3 cap] 25)).alloc (.cells #[.slice none 0 0] 25)) #[.slice none 0 0] 25
  simp only [World.size_alloc] at BX
  replace BX := Lib.hid BX
  clear BR
  go_enter Try.func41, Try.ntmps41
  go_wp2_with fail
  go_loopw [14] (fun i wr => ∃ (k : Nat) (v : Value) (ys : List DA), k ≤ 3 ∧ i = .int .i64 k ∧ Hid (BoxAt wr (w.heap.size + 1 + 1) #[v] 25) ∧ Hid (BoxAt wr (w.heap.size + 1) #[.slice none 0 0] 25) ∧ Hid (Own encD 3 51 w.heap.size wr v ys) ∧ Hid (ys.length = k) ∧ Hid (FDs wr ds ys) ∧ Hid (Below w.heap.size w wr)) (fun i _ => 3 - (intOf i).toNat)
  case atStart => exact ⟨0, _, [], by omega, rfl, BX, BR0, Lib.hid Own.nil, Lib.hid rfl, Lib.hid (fun i y hy => by simp at hy), HB0⟩
  case round =>
    clear BX BR0 HB0
    obtain ⟨k, v, ys, hk, rfl, HX, HRB, HO, HYL, HF, HB⟩ := hrel
    have bx := HX.out.cell
    have bf := HX.out.froz
    have bl := HX.out.lt
    by_cases hlt : k < 3
    · obtain ⟨b, off, x, rfl, hb, he, c0, c1, c2⟩ := (HR.out.below HB.out).rows.disk (k := k) (by rw [HL.out]; exact hlt)
      obtain ⟨d, hd, hrd⟩ := (HR.out.below HB.out).each k x he
      have k2 : IntKind.i64.wrap ((k : Int) + 1) = (k : Int) + 1 := IntWalk.i64_in _ (by omega)
      have KA := Lib.hid (And.intro (show (ys.length + 1) * 56 ≤ 140737488355328 by have := HYL.out; omega) (show ys.length + 1 ≤ maxLen by have := HYL.out; unfold maxLen; omega))
      have HC := Lib.hid (fun W (hB : Below wr.heap.size wr W) => raidFlushC_any W k x d (hrd.below hB) (HDS.out d (List.mem_of_getElem? hd)))
      have HDD := Lib.hid (show ds[ys.length]? = some d by rw [HYL.out]; exact hd)
      clear he hd hrd
      obtain ⟨xC, xnC, xcC, xW, xnW, xcW, xg⟩ := x
      unfold DA.v at HC
      dsimp only at *
      go_wp2_with fail
      refine Calls.mono (HC.out _ (below_alloc (Below.refl _ _) _)) ?_
      rintro e w2 ⟨⟨yC, ynC, ycC, yW, ynW, ycW, yg⟩, he, hf, hB⟩
      unfold DA.v at he
      dsimp only at he
      subst he
      have hBw := below_below (below_alloc (Below.refl wr.heap.size wr) (.cells #[.slice xC xnC xcC, .slice xW xnW xcW, .bool xg] 51)) hB
      have HO2 := Lib.hid ((HO.out.below hBw).below (below_alloc (Below.refl _ _) (.cells #[.slice yC ynC ycC, .slice yW ynW ycW, .bool yg] 51)))
      have HX2 := Lib.hid ((HX.out.below hBw).alloc (.cells #[.slice yC ynC ycC, .slice yW ynW ycW, .bool yg] 51))
      have HRB2 := Lib.hid ((HRB.out.below hBw).alloc (.cells #[.slice yC ynC ycC, .slice yW ynW ycW, .bool yg] 51))
      have HB2 := Lib.hid (below_alloc (below_below HB.out hBw) (.cells #[.slice yC ynC ycC, .slice yW ynW ycW, .bool yg] 51))
      have HF2 := Lib.hid (((HF.out.ks (KS.below hBw)).snoc (y := ⟨yC, ynC, ycC, yW, ynW, ycW, yg⟩) HDD.out hf).ks (KS.below (below_alloc (Below.refl _ _) (.cells #[.slice yC ynC ycC, .slice yW ynW ycW, .bool yg] 51))))
      have bx2 := (HX.out.below hBw).cell
      have bl2 := (HX.out.below hBw).lt
      clear hf hB hBw HO HX HRB HB HF bx bf bl HC
      go_wp2_with (at_builtin; refine wpList_app (ys := ([⟨yC, ynC, ycC, yW, ynW, ycW, yg⟩] : List DA)) elD rfl _ _ rfl (by rfl) (HO2.out.below (below_alloc (Below.refl _ _) _)) (by rfl) rfl (rd_oneDkAt (w2.alloc (.cells #[.slice yC ynC ycC, .slice yW ynW ycW, .bool yg] 51)) ⟨yC, ynC, ycC, yW, ynW, ycW, yg⟩ (by simp)) oneD KA.out.1 KA.out.2 (by have := (below_alloc HB2.out (.cells #[.slice yC ynC ycC, .slice yW ynW ycW, .bool yg] 51)).size; exact this) ?_; intro v4 w4 ho4 hg4 ha4; obtain ⟨g4, cap4, rfl⟩ := own_block ho4 (by simp); have HO4 := Lib.hid ho4; have HOa := Lib.hid (HO2.out.below (below_alloc (Below.refl _ _) (.cells #[.slice yC ynC ycC, .slice yW ynW ycW, .bool yg] 51))); have BX4 := Lib.hid ((HX2.out.alloc (.cells #[.slice yC ynC ycC, .slice yW ynW ycW, .bool yg] 51)).grownT HOa.out hg4 (by decide)); have BR4 := Lib.hid ((HRB2.out.alloc (.cells #[.slice yC ynC ycC, .slice yW ynW ycW, .bool yg] 51)).grownT HOa.out hg4 (by decide)); have HB4 := Lib.hid ((below_alloc HB2.out (.cells #[.slice yC ynC ycC, .slice yW ynW ycW, .bool yg] 51)).grown hg4 (below_alloc HB2.out (.cells #[.slice yC ynC ycC, .slice yW ynW ycW, .bool yg] 51)).size (own_baseD HOa.out)); have HS4 := Lib.hid ((KS.below (w := w2.alloc (.cells #[.slice yC ynC ycC, .slice yW ynW ycW, .bool yg] 51)) (below_alloc (Below.refl _ _) (.cells #[.slice yC ynC ycC, .slice yW ynW ycW, .bool yg] 51))).trans (KS.grown HOa.out hg4 (grown_size hg4) (by decide) (by decide))); have bx4 := BX4.out.cell; have bf4 := BX4.out.froz; have bl4 := BX4.out.lt; clear ho4 hg4 ha4)
      have HN := Lib.hid (ef_next BX4.out BR4.out (by omega) HO4.out HB4.out (by omega))
      have HF5 := Lib.hid ((HF2.out.ks HS4.out).ks HN.out.2.2.2.1)
      clear HF2 HS4 HO4 HB4
      go_roundw
      case rel => exact ⟨k + 1, _, _, by omega, by go_num, Lib.hid HN.out.1, Lib.hid HN.out.2.1, Lib.hid HN.out.2.2.1, Lib.hid (by simp; exact HYL.out), HF5, Lib.hid HN.out.2.2.2.2⟩
      case measure => simp [intOf]; omega
    · obtain rfl : k = 3 := by omega
      obtain ⟨g, cp, rfl⟩ := own_block HO.out (by rw [HYL.out]; omega)
      have br := HRB.out.cell
      have brf := HRB.out.froz
      have brl := HRB.out.lt
      have HP := Lib.hid (show EF w ds (.returned (.tuple #[.agg #[.slice (some ⟨g, 0, none⟩) ys.length cp], .bool true])) (wr.setCell ⟨w.heap.size + 1, 0, none⟩ (.slice (some ⟨g, 0, none⟩) ys.length cp)) by
        have hs := KS.setX (w := wr) (b := w.heap.size + 1) (j := 0) (u := .slice (some ⟨g, 0, none⟩) ys.length cp) (Tag.box HRB.out) (by decide) (by decide)
        have hO := own_one HO.out ((Kp.refl [w.heap.size + 1] wr).setCell (p := ⟨w.heap.size + 1, 0, none⟩) (.inl (by simp)) (.slice (some ⟨g, 0, none⟩) ys.length cp)) (by simpa using own_ne HO.out HRB.out (by decide))
        exact ⟨g, cp, ys, by rw [HYL.out], HYL.out, hO, HF.out.ks hs, below_set HB.out (by dsimp only; omega) _⟩)
      clear HF HO HYL hlt hk HR HL HDS H3
      generalize ys.length = n at *
      go_wp2_with fail
      refine bodyPost_ret (v := .tuple #[.agg #[.slice (some ⟨g, 0, none⟩) n cp], .bool true]) (by simp [results, Try.results41, go_sem, br, brl]) rfl ?_
      exact HP.out

/-- The disks of a pool, flushed. -/
def RF (w : World) (ds : List Dk) (e : Ending) (w' : World) : Prop := ∃ (D cap : Nat) (ys : List DA), e = .returned (.agg #[.slice (some ⟨D, 0, none⟩) 3 cap]) ∧ ys.length = 3 ∧ RRd w' (some ⟨D, 0, none⟩) cap ys (ds.map flushK) ∧ Below w.heap.size w w'
set_option maxHeartbeats 1000000 in
theorem raidFlush_any (w : World) (A : Option Addr) (cap : Nat) (xs : List DA) (ds : List Dk) (h : RRd w A cap xs ds) (hok : raidB ds = true) : Calls Try.prog 18 #[.agg #[.slice A 3 cap]] w (RF w ds) := by
  obtain ⟨h3, hds⟩ := raid_ok hok
  have hl : xs.length = 3 := by rw [← h.len]; exact h3
  have HOK := Lib.hid (fun W (hB : Below w.heap.size w W) => (by have := raidOk_any W A cap xs ds (h.below hB); rw [hl, hok] at this; exact this))
  have HE := Lib.hid (fun W (hB : Below w.heap.size w W) => each_any W A cap xs ds (h.below hB) hok)
  have H3 := Lib.hid h3
  clear h hok h3 hds hl
  have HB0 := Lib.hid (below_alloc (below_alloc (Below.refl w.heap.size w) (.cells #[.slice A 3 cap] 25)) (.cells #[.slice none 0 0] 25))
  have BX0 := Lib.hid ((box_new w #[.slice A 3 cap] 25).alloc (.cells #[.slice none 0 0] 25))
  have BR0 := box_new (w.alloc (.cells #[.slice A 3 cap] 25)) #[.slice none 0 0] 25
  rw [World.size_alloc] at BR0
  replace BR0 := Lib.hid BR0
  go_enter Try.func18, Try.ntmps18
  go_wp2_with fail
  refine Calls.mono (HOK.out _ HB0.out) ?_
  rintro e w1 ⟨rfl, hB⟩
  have BX1 := Lib.hid (BX0.out.below hB)
  have BR1 := Lib.hid (BR0.out.below hB)
  have HB1 := Lib.hid (below_below HB0.out hB)
  have bx := BX1.out.cell
  have bl := BX1.out.lt
  clear hB BX0 BR0 HB0 HOK
  go_wp2_with fail
  refine Calls.mono (HE.out _ HB1.out) ?_
  rintro e w2 ⟨D, c2, ys, rfl, hyl, ho, hf, hB⟩
  have hBa := below_alloc (Below.refl w2.heap.size w2) (.cells #[.slice (some ⟨D, 0, none⟩) 3 c2] 25)
  have BR2 := Lib.hid (BR1.out.below hB)
  have HB2 := Lib.hid (below_below HB1.out hB)
  have HO := Lib.hid ho
  have HF := Lib.hid hf
  have HYL := Lib.hid hyl
  have br := BR2.out.cell
  have brf := BR2.out.froz
  have brl := BR2.out.lt
  have hne : ¬ w2.heap.size = w.heap.size + 1 := by omega
  have hne2 : ¬ w.heap.size + 1 = w2.heap.size := by omega
  clear hB ho hf hyl bx BX1 BR1 HB1 HE hBa
  go_wp2_with fail
  refine bodyPost_ret (v := .agg #[.slice (some ⟨D, 0, none⟩) 3 c2]) (by simp [results, Try.results18, go_sem, br, brl, hne, hne2]) rfl ?_
  have K : Kp [w.heap.size + 1] w2 ((w2.setCell ⟨w.heap.size + 1, 0, none⟩ (.slice (some ⟨D, 0, none⟩) 3 c2)).alloc (.cells #[.slice (some ⟨D, 0, none⟩) 3 c2] 25)) := ((Kp.refl [w.heap.size + 1] w2).setCell (p := ⟨w.heap.size + 1, 0, none⟩) (.inl (by simp)) _).alloc _
  have hs : KS w2 ((w2.setCell ⟨w.heap.size + 1, 0, none⟩ (.slice (some ⟨D, 0, none⟩) 3 c2)).alloc (.cells #[.slice (some ⟨D, 0, none⟩) 3 c2] 25)) := (KS.setX (Tag.box BR2.out) (by decide) (by decide)).trans (KS.below (below_alloc (Below.refl _ _) _))
  exact ⟨D, c2, ys, rfl, HYL.out, ef_end H3.out HYL.out (own_one HO.out K (by simpa using own_ne HO.out BR2.out (by decide))) (HF.out.ks hs), below_kp HB2.out K (by simp)⟩

end Go.Proofs.Ytamljoffmkcbnaa
