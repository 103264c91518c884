/- A store handed in: its size, its copy; the argument opened. -/
import Derived.Test.YtomofiklodojeaaStoreHelp
import Derived.Test.YtomofiklodojeaaStoreOkS
namespace Go.Proofs.Ytomofiklodojeaa
open Go.RowKit
set_option maxRecDepth 100000
set_option linter.unusedVariables false
set_option linter.unusedSimpArgs false

def SzSt (w : World) (x : SA) (e : Ending) (w' : World) : Prop := ∃ r : Int, e = .returned (.int .i64 r) ∧ (0 ≤ r → x.nR ≤ 1048576 ∧ x.nA ≤ 1048576 ∧ x.nB ≤ 1048576 ∧ x.nG ≤ 1048576 ∧ x.nD ≤ 1048576) ∧ Below w.heap.size w w'

def SzSq (w : World) (left : Int) (n m : Nat) (e : Ending) (w' : World) : Prop := ∃ r : Int, e = .returned (.int .i64 r) ∧ -1 ≤ r ∧ r ≤ left ∧ (0 ≤ r → (n : Int) ≤ left ∧ (m : Int) ≤ left) ∧ Below w.heap.size w w'
theorem szSpace_in (w : World) (A B : Option Addr) (n c m d : Nat) (left : Int) (hn : n ≤ 9223372036854775807) (hm : m ≤ 9223372036854775807) (h0 : 0 ≤ left) (h1 : left ≤ 1048576) :
    Calls Try.prog 70 #[.agg #[.slice A n c, .slice B m d], .int .i64 left] w (SzSq w left n m) := by
  have HBa := Lib.hid (below_alloc (Below.refl w.heap.size w) (.cells #[.slice A n c, .slice B m d] 52))
  go_enter Try.func70, Try.ntmps70
  go_wp2_with fail
  refine Calls.mono (szIntS_any _ A n c left hn h0 h1) ?_
  rintro e w' ⟨r, rfl, hr0, hr1, hr2, rfl⟩
  by_cases hneg : r < 0
  · go_wp2_with fail
    go_ret
    exact ⟨-1, rfl, by omega, by omega, by omega, HBa.out⟩
  · go_wp2_with fail
    refine Calls.mono (szIntS_any _ B m d r hm (by omega) (by omega)) ?_
    rintro e w' ⟨r2, rfl, hs0, hs1, hs2, rfl⟩
    by_cases hneg2 : r2 < 0
    · go_wp2_with fail
      go_ret
      exact ⟨-1, rfl, by omega, by omega, by omega, HBa.out⟩
    · go_wp2_with fail
      go_ret
      exact ⟨r2, rfl, by omega, by omega, fun _ => ⟨by omega, by omega⟩, HBa.out⟩

set_option maxHeartbeats 4000000 in
theorem szStore_any (w : World) (x : SA) (s : St) (h : SRd w x s) (hz : ∀ r ∈ s.rows, r.size ≤ 9223372036854775807) :
    Calls Try.prog 31 #[x.v s.txg s.keep s.same, .int .i64 1048576] w (SzSt w x) := by
  have HX := Lib.hid h
  have E1 := Lib.hid (fun W (hB : Below w.heap.size w W) => (by have := szStringS_any W x.R x.cR s.rows 1048576 (HX.out.rows.below hB) (by rw [HX.out.lR]; exact HX.out.hR) HX.out.mR hz (by omega) (by omega); rw [HX.out.lR] at this; exact this : Calls Try.prog 69 #[.slice x.R x.nR x.cR, .int .i64 1048576] W (SzPostS W 1048576 (x.nR + (List.map (fun x => x.size) s.rows).sum))))
  have mA : x.nA ≤ 9223372036854775807 := Nat.le_trans h.hA h.mA
  have mB : x.nB ≤ 9223372036854775807 := Nat.le_trans h.hB h.mB
  have mG : x.nG ≤ 9223372036854775807 := Nat.le_trans h.hG h.mG
  have mD : x.nD ≤ 9223372036854775807 := Nat.le_trans h.hD h.mD
  clear h HX
  generalize (List.map (fun x => x.size) s.rows).sum = tot at *
  obtain ⟨R, nR, cR, A, nA, cA, B, nB, cB, G, nG, cG, D, nD, cD⟩ := x
  unfold SA.v SzSt
  dsimp only at *
  have HBw := Lib.hid (below_alloc (Below.refl w.heap.size w) (.cells #[.slice R nR cR, .slice A nA cA, .slice B nB cB, .int .i64 s.txg, .slice G nG cG, .int .i64 s.keep, .slice D nD cD, .bool s.same] 54))
  go_enter Try.func31, Try.ntmps31
  go_wp2_with fail
  refine Calls.mono (E1.out _ HBw.out) ?_
  rintro e w1 ⟨r1, rfl, a1, b1, d1, hB⟩
  obtain ⟨c1, f1⟩ := bcell hB
  have hsz := hB.size
  simp only [World.size_alloc] at hsz
  have hx1 : w.heap.size < w1.heap.size := by omega
  have HB1 := Lib.hid (below_below HBw.out hB)
  clear hB hsz
  by_cases n1 : r1 < 0
  · go_wp2_with fail
    go_ret
    exact ⟨-1, rfl, by omega, HB1.out⟩
  go_wp2_with fail
  refine Calls.mono (szSpace_in _ A B nA cA nB cB r1 mA mB (by omega) (by omega)) ?_
  rintro e w2 ⟨r2, rfl, a2, b2, d2, hB⟩
  obtain ⟨c2, f2⟩ := bcell hB
  have hsz := hB.size
  have hx2 : w.heap.size < w2.heap.size := by omega
  have HB2 := Lib.hid (below_below HB1.out hB)
  clear hB hsz
  by_cases n2 : r2 < 0
  · go_wp2_with fail
    go_ret
    exact ⟨-1, rfl, by omega, HB2.out⟩
  go_wp2_with fail
  refine Calls.mono (szPtrS_any _ G nG cG r2 mG (by omega) (by omega)) ?_
  rintro e w3 ⟨r3, rfl, a3, b3, d3, rfl⟩
  by_cases n3 : r3 < 0
  · go_wp2_with fail
    go_ret
    exact ⟨-1, rfl, by omega, HB2.out⟩
  go_wp2_with fail
  refine Calls.mono (szPtrS_any _ D nD cD r3 mD (by omega) (by omega)) ?_
  rintro e w4 ⟨r4, rfl, a4, b4, d4, rfl⟩
  by_cases n4 : r4 < 0
  · go_wp2_with fail
    go_ret
    exact ⟨-1, rfl, by omega, HB2.out⟩
  go_wp2_with fail
  go_ret
  exact ⟨r4, rfl, fun _ => ⟨by omega, by omega, by omega, by omega, by omega⟩, HB2.out⟩

def SpOwn (w : World) (rs ls : List Int) (e : Ending) (w' : World) : Prop := ∃ A c B d, e = .returned (.agg #[.slice A rs.length c, .slice B ls.length d]) ∧ rs.length ≤ c ∧ c ≤ 9223372036854775807 ∧ ls.length ≤ d ∧ d ≤ 9223372036854775807 ∧ RdT encN 1 w' A rs ∧ RdT encN 1 w' B ls ∧ (∀ a, A = some a → w.heap.size ≤ a.block) ∧ (∀ a, B = some a → w.heap.size ≤ a.block) ∧ Below w.heap.size w w'

set_option maxHeartbeats 2000000 in
theorem toSpace_own (w : World) (A B : Option Addr) (c d : Nat) (rs ls : List Int) (h : RdT encN 1 w A rs) (g : RdT encN 1 w B ls) (hc : rs.length ≤ c) (hd : ls.length ≤ d) (hn : rs.length ≤ 1048576) (hm : ls.length ≤ 1048576) :
    Calls Try.prog 74 #[.agg #[.slice A rs.length c, .slice B ls.length d]] w (SpOwn w rs ls) := by
  have HR := Lib.hid h
  have HG := Lib.hid g
  clear h g
  go_enter Try.func74, Try.ntmps74
  go_wp2_with fail
  have HBw := Lib.hid (below_alloc (below_alloc (below_alloc (Below.refl w.heap.size w) (.cells #[.slice A rs.length c, .slice B ls.length d] 52)) (.cells #[.slice none 0 0, .slice none 0 0] 27)) (.cells #[.slice none 0 0, .slice none 0 0] 27))
  refine Calls.mono (toIntS_any _ A c rs (HR.out.below HBw.out) hc hn) ?_
  rintro e w1 ⟨v1, rfl, hO1, hB1⟩
  obtain ⟨A1, cap1, rfl, hc1, hm1, hge1, hR1⟩ := hO1.form
  have HB1 := Lib.hid (below_below HBw.out hB1)
  have HR1 := Lib.hid hR1
  have HG1 := Lib.hid hge1
  obtain ⟨c1, f1⟩ := bcell hB1
  have hz1 : w.heap.size + 1 + 1 < w1.heap.size := by have := hB1.size; simp at this; omega
  have hy1 : w.heap.size + 1 < w1.heap.size := by omega
  have hx1 : w.heap.size < w1.heap.size := by omega
  clear hB1 hO1 hR1 hge1
  go_wp2_with fail
  have HBs := Lib.hid (below_set HB1.out (p := ⟨w.heap.size + 1 + 1, 0, none⟩) (by dsimp only; omega) (.slice A1 rs.length cap1))
  have hS1 : (w1.setCell ⟨w.heap.size + 1 + 1, 0, none⟩ (.slice A1 rs.length cap1)).heap.size = w1.heap.size := World.size_setCell _ _ _
  refine Calls.mono (toIntS_any _ B d ls (HG.out.below HBs.out) hd hm) ?_
  rintro e w2 ⟨v2, rfl, hO2, hB2⟩
  obtain ⟨A2, cap2, rfl, hc2, hm2, hge2, hR2⟩ := hO2.form
  have HB2 := Lib.hid (below_below HBs.out hB2)
  have hz2 : w.heap.size + 1 + 1 < w2.heap.size := by have := hB2.size; rw [hS1] at this; omega
  have hy2 : w.heap.size + 1 < w2.heap.size := by omega
  have HR2 := Lib.hid hR2
  have HG2 := Lib.hid hge2
  have HK := Lib.hid (Kp.of_below hB2)
  obtain ⟨c2, f2⟩ := bcell hB2
  rw [hS1] at c2 f2
  clear hB2 hO2 hR2 hge2
  have k1 : Kp [w.heap.size + 1, w.heap.size + 1 + 1] w1 (w1.setCell ⟨w.heap.size + 1 + 1, 0, none⟩ (.slice A1 rs.length cap1)) := (Kp.refl _ _).setCell (.inl (by simp)) _
  have HK2 := Lib.hid (k1.trans (HK.out.all _))
  clear k1
  go_wp2_with fail
  have HKf := Lib.hid ((((Kp.refl [w.heap.size + 1, w.heap.size + 1 + 1] w2).setCell (p := ⟨w.heap.size + 1 + 1, 1, none⟩) (.inl (by simp)) (.slice A2 ls.length cap2)).setCell (p := ⟨w.heap.size + 1, 0, none⟩) (.inl (by simp)) (.slice A1 rs.length cap1)).setCell (p := ⟨w.heap.size + 1, 1, none⟩) (.inl (by simp)) (.slice A2 ls.length cap2))
  have HBf := Lib.hid (below_set (below_set (below_set HB2.out (p := ⟨w.heap.size + 1 + 1, 1, none⟩) (by dsimp only; omega) (.slice A2 ls.length cap2)) (p := ⟨w.heap.size + 1, 0, none⟩) (by dsimp only; omega) (.slice A1 rs.length cap1)) (p := ⟨w.heap.size + 1, 1, none⟩) (by dsimp only; omega) (.slice A2 ls.length cap2))
  have HRf := (HR1.out.kp (HK2.out.trans HKf.out) (fun _ a ha => by have := (HG1.out a ha).1; simp at this; simp; omega))
  have HRg := (HR2.out.kp HKf.out (fun _ a ha => by have := (HG2.out a ha).1; rw [hS1] at this; simp; omega))

  refine bodyPost_ret (v := .agg #[.slice A1 rs.length cap1, .slice A2 ls.length cap2]) (by simp [results, Try.results74, go_sem, c2, c1, hy1, hx1]) rfl ⟨A1, cap1, A2, cap2, rfl, hc1, hm1, hc2, hm2, HRf, HRg, fun a ha => by have := (HG1.out a ha).1; simp at this; omega, fun a ha => by have := (HG2.out a ha).1; rw [hS1] at this; omega, HBf.out⟩


/-- What a copy is: a store of its own, that reads alike. -/
def ToSt (w : World) (s : St) (e : Ending) (w' : World) : Prop := ∃ y : SA, e = .returned (y.v s.txg s.keep s.same) ∧ SRd w' y s ∧ Below w.heap.size w w'

set_option maxHeartbeats 8000000 in
theorem toStore_any (w : World) (x : SA) (s : St) (h : SRd w x s) (bR : x.nR ≤ 1048576) (bA : x.nA ≤ 1048576) (bB : x.nB ≤ 1048576) (bG : x.nG ≤ 1048576) (bD : x.nD ≤ 1048576) :
    Calls Try.prog 33 #[x.v s.txg s.keep s.same] w (ToSt w s) := by
  have HX := Lib.hid h
  have E1 := Lib.hid (fun W (hB : Below w.heap.size w W) => (by have := toStringS_any W x.R x.cR s.rows (HX.out.rows.below hB) (by rw [HX.out.lR]; exact HX.out.hR) (by rw [HX.out.lR]; exact bR); rw [HX.out.lR] at this; exact this : Calls Try.prog 73 #[.slice x.R x.nR x.cR] W (SPost W s.rows)))
  have E2 := Lib.hid (fun W (hB : Below w.heap.size w W) => (by have := toSpace_own W x.A x.B x.cA x.cB s.refs s.last (HX.out.refs.below hB) (HX.out.last.below hB) (by rw [HX.out.lA]; exact HX.out.hA) (by rw [HX.out.lB]; exact HX.out.hB) (by rw [HX.out.lA]; exact bA) (by rw [HX.out.lB]; exact bB); rw [HX.out.lA, HX.out.lB] at this; exact this : Calls Try.prog 74 #[.agg #[.slice x.A x.nA x.cA, .slice x.B x.nB x.cB]] W (SpOwn W s.refs s.last)))
  have E3 := Lib.hid (fun W (hB : Below w.heap.size w W) => (by have := toPtrS_any W x.G x.cG s.gone (HX.out.gone.below hB) (by rw [HX.out.lG]; exact HX.out.hG) (by rw [HX.out.lG]; exact bG); rw [HX.out.lG] at this; exact this : Calls Try.prog 17 #[.slice x.G x.nG x.cG] W (PPost W s.gone)))
  have E4 := Lib.hid (fun W (hB : Below w.heap.size w W) => (by have := toPtrS_any W x.D x.cD s.dead (HX.out.dead.below hB) (by rw [HX.out.lD]; exact HX.out.hD) (by rw [HX.out.lD]; exact bD); rw [HX.out.lD] at this; exact this : Calls Try.prog 17 #[.slice x.D x.nD x.cD] W (PPost W s.dead)))
  clear h HX
  obtain ⟨R, nR, cR, A, nA, cA, B, nB, cB, G, nG, cG, D, nD, cD⟩ := x
  unfold SA.v
  dsimp only at *
  have HBw := Lib.hid (below_alloc (below_alloc (below_alloc (Below.refl w.heap.size w) (.cells #[.slice R nR cR, .slice A nA cA, .slice B nB cB, .int .i64 s.txg, .slice G nG cG, .int .i64 s.keep, .slice D nD cD, .bool s.same] 54)) (.cells #[.slice none 0 0, .slice none 0 0, .slice none 0 0, .int .i64 0, .slice none 0 0, .int .i64 0, .slice none 0 0, .bool false] 47)) (.cells #[.slice none 0 0, .slice none 0 0, .slice none 0 0, .int .i64 0, .slice none 0 0, .int .i64 0, .slice none 0 0, .bool false] 47))
  go_enter Try.func33, Try.ntmps33
  have SB0 := Lib.hid (((box_new w #[.slice R nR cR, .slice A nA cA, .slice B nB cB, .int .i64 s.txg, .slice G nG cG, .int .i64 s.keep, .slice D nD cD, .bool s.same] 54).alloc (.cells #[.slice none 0 0, .slice none 0 0, .slice none 0 0, .int .i64 0, .slice none 0 0, .int .i64 0, .slice none 0 0, .bool false] 47)).alloc (.cells #[.slice none 0 0, .slice none 0 0, .slice none 0 0, .int .i64 0, .slice none 0 0, .int .i64 0, .slice none 0 0, .bool false] 47))
  have RC0 := box_new (w.alloc (.cells #[.slice R nR cR, .slice A nA cA, .slice B nB cB, .int .i64 s.txg, .slice G nG cG, .int .i64 s.keep, .slice D nD cD, .bool s.same] 54)) #[.slice none 0 0, .slice none 0 0, .slice none 0 0, .int .i64 0, .slice none 0 0, .int .i64 0, .slice none 0 0, .bool false] 47
  have OT0 := box_new ((w.alloc (.cells #[.slice R nR cR, .slice A nA cA, .slice B nB cB, .int .i64 s.txg, .slice G nG cG, .int .i64 s.keep, .slice D nD cD, .bool s.same] 54)).alloc (.cells #[.slice none 0 0, .slice none 0 0, .slice none 0 0, .int .i64 0, .slice none 0 0, .int .i64 0, .slice none 0 0, .bool false] 47)) #[.slice none 0 0, .slice none 0 0, .slice none 0 0, .int .i64 0, .slice none 0 0, .int .i64 0, .slice none 0 0, .bool false] 47
  rw [World.size_alloc] at RC0 OT0
  rw [World.size_alloc] at OT0
  replace RC0 := Lib.hid (RC0.alloc (.cells #[.slice none 0 0, .slice none 0 0, .slice none 0 0, .int .i64 0, .slice none 0 0, .int .i64 0, .slice none 0 0, .bool false] 47))
  replace OT0 := Lib.hid OT0
  go_wp2_with fail
  refine Calls.mono (E1.out _ HBw.out) ?_
  rintro e w1 ⟨v1, rfl, hO1, hB1⟩
  obtain ⟨A1, cap1, rfl, hc1, hm1, hge1, hR1⟩ := hO1.form
  have HB1 := Lib.hid (below_below HBw.out hB1)
  have R1 := Lib.hid hR1
  have G1 := Lib.hid (fun a ha => (hge1 a ha).1)
  have SB1 := Lib.hid (SB0.out.below hB1)
  have RC1 := Lib.hid (RC0.out.below hB1)
  have OT1 := Lib.hid (OT0.out.below hB1)
  have sb1 := SB1.out.cell
  have sl1 := SB1.out.lt
  have rb1 := RC1.out.cell
  have rf1 := RC1.out.froz
  have rl1 := RC1.out.lt
  have ob1 := OT1.out.cell
  have of1 := OT1.out.froz
  have ol1 := OT1.out.lt
  have hw1 : w.heap.size + 1 + 1 < w1.heap.size := ol1
  clear hB1 hO1 hR1 hge1 SB0 RC0 OT0
  simp only [World.size_alloc] at G1
  go_wp2_with fail
  have OT1b := Lib.hid (OT1.out.put 0 (.slice A1 s.rows.length cap1))
  have SB1b := Lib.hid (SB1.out.set (p := ⟨w.heap.size + 1 + 1, 0, none⟩) (by dsimp only; omega) (.slice A1 s.rows.length cap1))
  have RC1b := Lib.hid (RC1.out.set (p := ⟨w.heap.size + 1 + 1, 0, none⟩) (by dsimp only; omega) (.slice A1 s.rows.length cap1))
  have HB1b := Lib.hid (below_set HB1.out (p := ⟨w.heap.size + 1 + 1, 0, none⟩) (by dsimp only; omega) (.slice A1 s.rows.length cap1))
  have K1 := Lib.hid ((Kp.refl [w.heap.size + 1, w.heap.size + 1 + 1] w1).setCell (p := ⟨w.heap.size + 1 + 1, 0, none⟩) (.inl (by simp)) (.slice A1 s.rows.length cap1))
  clear sb1 sl1 rb1 rf1 rl1 ob1 of1 ol1 SB1 RC1 OT1
  have z1 : (w1.setCell ⟨w.heap.size + 1 + 1, 0, none⟩ (.slice A1 s.rows.length cap1)).heap.size = w1.heap.size := World.size_setCell _ _ _
  refine Calls.mono (E2.out _ HB1b.out) ?_
  rintro e w2 ⟨A2, cap2, A3, cap3, rfl, hc2, hm2, hc3, hm3, hr2, hr3, hg2, hg3, hB2⟩
  have HB2 := Lib.hid (below_below HB1b.out hB2)
  have SB2 := Lib.hid (SB1b.out.below hB2)
  have RC2 := Lib.hid (RC1b.out.below hB2)
  have OT2 := Lib.hid (show BoxAt w2 (w.heap.size + 1 + 1) #[.slice A1 s.rows.length cap1, .slice none 0 0, .slice none 0 0, .int .i64 0, .slice none 0 0, .int .i64 0, .slice none 0 0, .bool false] 47 from OT1b.out.below hB2)
  have KK1 := Lib.hid (kp_trans_below K1.out hB2)
  clear OT1b SB1b RC1b HB1b K1
  have R1b := Lib.hid (R1.out.kp KK1.out (fun _ a ha hm => by have := G1.out a ha; simp at hm; omega))
  have R2 := Lib.hid hr2
  have R3 := Lib.hid hr3
  rw [z1] at hg2 hg3
  have G2 := Lib.hid hg2
  have G3 := Lib.hid hg3
  have sb2 := SB2.out.cell
  have sl2 := SB2.out.lt
  have rb2 := RC2.out.cell
  have rf2 := RC2.out.froz
  have rl2 := RC2.out.lt
  have ob2 := OT2.out.cell
  have of2 := OT2.out.froz
  have ol2 := OT2.out.lt
  have h12 : w1.heap.size ≤ w2.heap.size := KK1.out.size
  clear hB2 hr2 hr3 hg2 hg3 R1 KK1 HB1 z1
  go_wp2_with fail
  have OT2b := Lib.hid (((OT2.out.put 1 (.slice A2 s.refs.length cap2)).put 2 (.slice A3 s.last.length cap3)).put 3 (.int .i64 s.txg))
  have SB2b := Lib.hid (((SB2.out.set (p := ⟨w.heap.size + 1 + 1, 1, none⟩) (by dsimp only; omega) (.slice A2 s.refs.length cap2)).set (p := ⟨w.heap.size + 1 + 1, 2, none⟩) (by dsimp only; omega) (.slice A3 s.last.length cap3)).set (p := ⟨w.heap.size + 1 + 1, 3, none⟩) (by dsimp only; omega) (.int .i64 s.txg))
  have RC2b := Lib.hid (((RC2.out.set (p := ⟨w.heap.size + 1 + 1, 1, none⟩) (by dsimp only; omega) (.slice A2 s.refs.length cap2)).set (p := ⟨w.heap.size + 1 + 1, 2, none⟩) (by dsimp only; omega) (.slice A3 s.last.length cap3)).set (p := ⟨w.heap.size + 1 + 1, 3, none⟩) (by dsimp only; omega) (.int .i64 s.txg))
  have HB2b := Lib.hid (below_set (below_set (below_set HB2.out (p := ⟨w.heap.size + 1 + 1, 1, none⟩) (by dsimp only; omega) (.slice A2 s.refs.length cap2)) (p := ⟨w.heap.size + 1 + 1, 2, none⟩) (by dsimp only; omega) (.slice A3 s.last.length cap3)) (p := ⟨w.heap.size + 1 + 1, 3, none⟩) (by dsimp only; omega) (.int .i64 s.txg))
  have K2 := Lib.hid ((((Kp.refl [w.heap.size + 1, w.heap.size + 1 + 1] w2).setCell (p := ⟨w.heap.size + 1 + 1, 1, none⟩) (.inl (by simp)) (.slice A2 s.refs.length cap2)).setCell (p := ⟨w.heap.size + 1 + 1, 2, none⟩) (.inl (by simp)) (.slice A3 s.last.length cap3)).setCell (p := ⟨w.heap.size + 1 + 1, 3, none⟩) (.inl (by simp)) (.int .i64 s.txg))
  clear sb2 sl2 rb2 rf2 rl2 ob2 of2 ol2 SB2 RC2 OT2
  refine Calls.mono (E3.out _ HB2b.out) ?_
  rintro e w3 ⟨v4, rfl, hO3, hB3⟩
  obtain ⟨A4, cap4, rfl, hc4, hm4, hge4, hR4⟩ := hO3.form
  simp only [World.size_setCell] at hge4
  have HB3 := Lib.hid (below_below HB2b.out hB3)
  have SB3 := Lib.hid (SB2b.out.below hB3)
  have RC3 := Lib.hid (RC2b.out.below hB3)
  have OT3 := Lib.hid (show BoxAt w3 (w.heap.size + 1 + 1) #[.slice A1 s.rows.length cap1, .slice A2 s.refs.length cap2, .slice A3 s.last.length cap3, .int .i64 s.txg, .slice none 0 0, .int .i64 0, .slice none 0 0, .bool false] 47 from OT2b.out.below hB3)
  have KK2 := Lib.hid (kp_trans_below K2.out hB3)
  clear OT2b SB2b RC2b HB2b K2
  have R1c := Lib.hid (R1b.out.kp KK2.out (fun _ a ha hm => by have := G1.out a ha; simp at hm; omega))
  have R2c := Lib.hid (R2.out.kp KK2.out (fun _ a ha hm => by have := G2.out a ha; simp at hm; omega))
  have R3c := Lib.hid (R3.out.kp KK2.out (fun _ a ha hm => by have := G3.out a ha; simp at hm; omega))
  have R4 := Lib.hid hR4
  have G4 := Lib.hid (fun a ha => (hge4 a ha).1)
  have sb3 := SB3.out.cell
  have sl3 := SB3.out.lt
  have rb3 := RC3.out.cell
  have rf3 := RC3.out.froz
  have rl3 := RC3.out.lt
  have ob3 := OT3.out.cell
  have of3 := OT3.out.froz
  have ol3 := OT3.out.lt
  have h23 : w2.heap.size ≤ w3.heap.size := KK2.out.size
  clear hB3 hO3 hR4 hge4 R1b R2 R3 KK2 HB2
  go_wp2_with fail
  have OT3b := Lib.hid ((OT3.out.put 4 (.slice A4 s.gone.length cap4)).put 5 (.int .i64 s.keep))
  have SB3b := Lib.hid ((SB3.out.set (p := ⟨w.heap.size + 1 + 1, 4, none⟩) (by dsimp only; omega) (.slice A4 s.gone.length cap4)).set (p := ⟨w.heap.size + 1 + 1, 5, none⟩) (by dsimp only; omega) (.int .i64 s.keep))
  have RC3b := Lib.hid ((RC3.out.set (p := ⟨w.heap.size + 1 + 1, 4, none⟩) (by dsimp only; omega) (.slice A4 s.gone.length cap4)).set (p := ⟨w.heap.size + 1 + 1, 5, none⟩) (by dsimp only; omega) (.int .i64 s.keep))
  have HB3b := Lib.hid (below_set (below_set HB3.out (p := ⟨w.heap.size + 1 + 1, 4, none⟩) (by dsimp only; omega) (.slice A4 s.gone.length cap4)) (p := ⟨w.heap.size + 1 + 1, 5, none⟩) (by dsimp only; omega) (.int .i64 s.keep))
  have K3 := Lib.hid (((Kp.refl [w.heap.size + 1, w.heap.size + 1 + 1] w3).setCell (p := ⟨w.heap.size + 1 + 1, 4, none⟩) (.inl (by simp)) (.slice A4 s.gone.length cap4)).setCell (p := ⟨w.heap.size + 1 + 1, 5, none⟩) (.inl (by simp)) (.int .i64 s.keep))
  clear sb3 sl3 rb3 rf3 rl3 ob3 of3 ol3 SB3 RC3 OT3
  refine Calls.mono (E4.out _ HB3b.out) ?_
  rintro e w4 ⟨v5, rfl, hO4, hB4⟩
  obtain ⟨A5, cap5, rfl, hc5, hm5, hge5, hR5⟩ := hO4.form
  simp only [World.size_setCell] at hge5
  have HB4 := Lib.hid (below_below HB3b.out hB4)
  have SB4 := Lib.hid (SB3b.out.below hB4)
  have RC4 := Lib.hid (RC3b.out.below hB4)
  have OT4 := Lib.hid (show BoxAt w4 (w.heap.size + 1 + 1) #[.slice A1 s.rows.length cap1, .slice A2 s.refs.length cap2, .slice A3 s.last.length cap3, .int .i64 s.txg, .slice A4 s.gone.length cap4, .int .i64 s.keep, .slice none 0 0, .bool false] 47 from OT3b.out.below hB4)
  have KK3 := Lib.hid (kp_trans_below K3.out hB4)
  clear OT3b SB3b RC3b HB3b K3
  have R1d := Lib.hid (R1c.out.kp KK3.out (fun _ a ha hm => by have := G1.out a ha; simp at hm; omega))
  have R2d := Lib.hid (R2c.out.kp KK3.out (fun _ a ha hm => by have := G2.out a ha; simp at hm; omega))
  have R3d := Lib.hid (R3c.out.kp KK3.out (fun _ a ha hm => by have := G3.out a ha; simp at hm; omega))
  have R4d := Lib.hid (R4.out.kp KK3.out (fun _ a ha hm => by have := G4.out a ha; simp at hm; omega))
  have R5 := Lib.hid hR5
  have G5 := Lib.hid (fun a ha => (hge5 a ha).1)
  have sb4 := SB4.out.cell
  have sl4 := SB4.out.lt
  have rb4 := RC4.out.cell
  have rf4 := RC4.out.froz
  have rl4 := RC4.out.lt
  have ob4 := OT4.out.cell
  have of4 := OT4.out.froz
  have ol4 := OT4.out.lt
  have h34 : w3.heap.size ≤ w4.heap.size := KK3.out.size
  clear hB4 hO4 hR5 hge5 R1c R2c R3c R4 KK3 HB3
  go_wp2_with fail
  have KF := Lib.hid (((((((((((Kp.refl [w.heap.size + 1, w.heap.size + 1 + 1] w4).setCell (p := ⟨w.heap.size + 1 + 1, 6, none⟩) (.inl (by simp)) (.slice A5 s.dead.length cap5)).setCell (p := ⟨w.heap.size + 1 + 1, 7, none⟩) (.inl (by simp)) (.bool s.same)).setCell (p := ⟨w.heap.size + 1, 0, none⟩) (.inl (by simp)) (.slice A1 s.rows.length cap1)).setCell (p := ⟨w.heap.size + 1, 1, none⟩) (.inl (by simp)) (.slice A2 s.refs.length cap2)).setCell (p := ⟨w.heap.size + 1, 2, none⟩) (.inl (by simp)) (.slice A3 s.last.length cap3)).setCell (p := ⟨w.heap.size + 1, 3, none⟩) (.inl (by simp)) (.int .i64 s.txg)).setCell (p := ⟨w.heap.size + 1, 4, none⟩) (.inl (by simp)) (.slice A4 s.gone.length cap4)).setCell (p := ⟨w.heap.size + 1, 5, none⟩) (.inl (by simp)) (.int .i64 s.keep)).setCell (p := ⟨w.heap.size + 1, 6, none⟩) (.inl (by simp)) (.slice A5 s.dead.length cap5)).setCell (p := ⟨w.heap.size + 1, 7, none⟩) (.inl (by simp)) (.bool s.same))
  have HBF := Lib.hid (below_set (below_set (below_set (below_set (below_set (below_set (below_set (below_set (below_set (below_set HB4.out (p := ⟨w.heap.size + 1 + 1, 6, none⟩) (by dsimp only; omega) (.slice A5 s.dead.length cap5)) (p := ⟨w.heap.size + 1 + 1, 7, none⟩) (by dsimp only; omega) (.bool s.same)) (p := ⟨w.heap.size + 1, 0, none⟩) (by dsimp only; omega) (.slice A1 s.rows.length cap1)) (p := ⟨w.heap.size + 1, 1, none⟩) (by dsimp only; omega) (.slice A2 s.refs.length cap2)) (p := ⟨w.heap.size + 1, 2, none⟩) (by dsimp only; omega) (.slice A3 s.last.length cap3)) (p := ⟨w.heap.size + 1, 3, none⟩) (by dsimp only; omega) (.int .i64 s.txg)) (p := ⟨w.heap.size + 1, 4, none⟩) (by dsimp only; omega) (.slice A4 s.gone.length cap4)) (p := ⟨w.heap.size + 1, 5, none⟩) (by dsimp only; omega) (.int .i64 s.keep)) (p := ⟨w.heap.size + 1, 6, none⟩) (by dsimp only; omega) (.slice A5 s.dead.length cap5)) (p := ⟨w.heap.size + 1, 7, none⟩) (by dsimp only; omega) (.bool s.same))
  have F0 := R1d.out.kp KF.out (fun _ a ha hm => by have := G1.out a ha; simp at hm; omega)
  have F1 := R2d.out.kp KF.out (fun _ a ha hm => by have := G2.out a ha; simp at hm; omega)
  have F2 := R3d.out.kp KF.out (fun _ a ha hm => by have := G3.out a ha; simp at hm; omega)
  have F3 := R4d.out.kp KF.out (fun _ a ha hm => by have := G4.out a ha; simp at hm; omega)
  have F4 := R5.out.kp KF.out (fun _ a ha hm => by have := G5.out a ha; simp at hm; omega)
  refine bodyPost_ret (v := .agg #[.slice A1 s.rows.length cap1, .slice A2 s.refs.length cap2, .slice A3 s.last.length cap3, .int .i64 s.txg, .slice A4 s.gone.length cap4, .int .i64 s.keep, .slice A5 s.dead.length cap5, .bool s.same]) (by simp [results, Try.results33, go_sem, ob4, rb4]) rfl ?_
  exact ⟨⟨A1, s.rows.length, cap1, A2, s.refs.length, cap2, A3, s.last.length, cap3, A4, s.gone.length, cap4, A5, s.dead.length, cap5⟩, rfl, ⟨F0, F1, F2, F3, F4, rfl, rfl, rfl, rfl, rfl, hc1, hc2, hc3, hc4, hc5, hm1, hm2, hm3, hm4, hm5⟩, HBF.out⟩

section
open Go.ChangeShapes Go.WideShapes Go.ChangeAt
theorem open_strsC {H : Type} {enc : TypeId × Value → H} {W : World} {base fuel : Nat} {v : Value} {x : DataW H × List MemPlace} (hf : DataW.trod enc Try.prog W base (fun _ => true) true fuel 45 [v] = some x) :
    ∃ (A : Option Addr) (cap : Nat) (xs : List ByteArray), v = .slice A xs.length cap ∧ xs.length ≤ cap ∧ cap ≤ 9223372036854775807 ∧ RdT encS 1 W A xs ∧ ∀ x ∈ xs, x.size ≤ 9223372036854775807 := by
  rcases open_strings Try.underlying45 Try.underlying9 (by kernel_rfl) hf with ⟨hcs, _⟩ | ⟨x, l, c, zs, hcs, _, hl, hm, hz, hx, hcell, hwz⟩
  · cases hcs
    exact ⟨none, 0, [], rfl, Nat.le_refl _, by omega, RdT.none_, fun _ hm => by cases hm⟩
  · cases hcs
    have hz' : zs.length = c := by simpa using hz
    have hlen : (zs.take l).length = l := by rw [List.length_take]; omega
    refine ⟨some x, c, zs.take l, by rw [hlen], by omega, by unfold maxLen at hm; omega, fun hn => ?_, fun z hzm => ?_⟩
    · have h0 : 0 < zs.length := by omega
      obtain ⟨b, off, spot⟩ := x
      have hs := spot_none (hcell 0 h0)
      have hspot : spot = none := by simpa [Addr.add] using hs
      subst hspot
      have hlt' : b < W.heap.size := by
        have := World.block_lt_of_cell? W _ (hcell 0 h0)
        simpa [Addr.add] using this
      refine ⟨b, off, rfl, hlt', fun i z hi j hj => ?_⟩
      obtain rfl : j = 0 := by omega
      have hi' : i < l := by
        rcases Nat.lt_or_ge i l with h | h
        · exact h
        · rw [List.getElem?_eq_none (by omega)] at hi; cases hi
      have := hcell i (by omega)
      rw [List.getElem?_take, if_pos hi'] at hi
      have e : zs.getD i ByteArray.empty = z := by simp [List.getD, hi]
      rw [e] at this
      have ea : (⟨b, off, none⟩ : Addr).add i = ⟨b, off + i * 1 + 0, none⟩ := by
        unfold Addr.add
        split
        · next h => subst h; simp
        · simp
      rw [ea] at this
      exact this
    · have := hwz z (List.mem_of_mem_take hzm)
      unfold maxLen at this
      omega

/-- A store that came in. -/
theorem open_store {H : Type} {enc : TypeId × Value → H} {W : World} {r : Reach} {b0 base : Nat} {v : Value} {dd : DataW H} {p : List MemPlace} (hval : Value.okWide Try.prog W r b0 54 v) (h : DataW.Trod enc Try.prog W base (fun _ => true) true 54 v dd p) :
    ∃ (x : SA) (s : St), v = x.v s.txg s.keep s.same ∧ SRd W x s ∧ ∀ r ∈ s.rows, r.size ≤ 9223372036854775807 := by
  have c1 : Try.prog.cellsOf 25 = 1 := by kernel_rfl
  have c2 : Try.prog.cellsOf 52 = 2 := by kernel_rfl
  have c3 : Try.prog.cellsOf 45 = 1 := by kernel_rfl
  have c4 : Try.prog.cellsOf 32 = 1 := by kernel_rfl
  have c5 : Try.prog.cellsOf 3 = 1 := by kernel_rfl
  have c6 : Try.prog.cellsOf 4 = 1 := by kernel_rfl
  have c8 : Try.prog.cellsOf 54 = 8 := by kernel_rfl
  obtain ⟨⟨cs⟩, rfl, hsz⟩ := okWide_struct Try.underlying54 hval
  obtain ⟨fuel, hf⟩ := h
  have hsz' : cs.length = 8 := by rw [← c8]; exact hsz
  match cs, hsz' with
  | [x0, x1, x2, x3, x4, x5, x6, x7], _ =>
    replace hf : DataW.trod enc Try.prog W base (fun _ => true) true fuel 54 [x0, x1, x2, x3, x4, x5, x6, x7] = some (dd, p) := hf
    obtain ⟨n0, y0, t0⟩ := trod_at Try.underlying54 hf 0 rfl rfl rfl c3 rfl
    obtain ⟨n1, y1, t1⟩ := trod_at Try.underlying54 hf 1 rfl rfl rfl c2 rfl
    obtain ⟨n2, y2, t2⟩ := trod_at Try.underlying54 hf 2 rfl rfl rfl c5 rfl
    obtain ⟨n3, y3, t3⟩ := trod_at Try.underlying54 hf 3 rfl rfl rfl c4 rfl
    obtain ⟨n4, y4, t4⟩ := trod_at Try.underlying54 hf 4 rfl rfl rfl c5 rfl
    obtain ⟨n5, y5, t5⟩ := trod_at Try.underlying54 hf 5 rfl rfl rfl c4 rfl
    obtain ⟨n6, y6, t6⟩ := trod_at Try.underlying54 hf 6 rfl rfl rfl c6 rfl
    obtain ⟨m0, z0, s0⟩ := trod_at Try.underlying52 t1 0 rfl rfl rfl c1 rfl
    obtain ⟨m1, z1, s1⟩ := trod_at Try.underlying52 t1 1 rfl rfl rfl c1 rfl
    obtain ⟨R, cR, rows, rfl, hR, mR, rR, hz⟩ := open_strsC t0
    obtain ⟨A, cA, refs, rfl, hA, mA, rA⟩ := open_nums s0
    obtain ⟨B, cB, last, rfl, hB, mB, rB⟩ := open_nums s1
    obtain ⟨G, cG, gone, rfl, hG, mG, rG⟩ := open_ptrs t3
    obtain ⟨D, cD, dead, rfl, hD, mD, rD⟩ := open_ptrs t5
    obtain ⟨a2, e2, _, _⟩ := DataW.trod_int Try.underlying3 t2
    obtain ⟨a4, e4, _, _⟩ := DataW.trod_int Try.underlying3 t4
    obtain ⟨a6, e6, _⟩ := DataW.trod_bool Try.underlying4 t6
    cases e2; cases e4; cases e6
    exact ⟨⟨R, _, cR, A, _, cA, B, _, cB, G, _, cG, D, _, cD⟩, ⟨rows, refs, last, a2, gone, a4, dead, a6⟩, rfl, ⟨rR, rA, rB, rG, rD, rfl, rfl, rfl, rfl, rfl, hR, hA, hB, hG, hD, mR, mA, mB, mG, mD⟩, hz⟩
end

end Go.Proofs.Ytomofiklodojeaa
