/- What is drawn is written to the disks of a pool; and what waits on them is done. -/
import Derived.Test.YtamljoffmkcbnaaDrawWrite
namespace Go.Proofs.Ytamljoffmkcbnaa
open Go.RowKit Go.Sort
set_option maxRecDepth 100000
set_option linter.unusedVariables false
set_option linter.unusedSimpArgs false

theorem RI.ssD {base m : Nat} {w w' : World} {D cap : Nat} {xs : List DA} (h : RI base m w D cap xs) (hs : SS base [] w w') : RI base m w' D cap xs := h.ss hs
def FlR (base m : Nat) (D cap : Nat) (xs : List DA) (w : World) (e : Ending) (w' : World) : Prop := ∃ xs' : List DA, e = .returned (.agg #[.slice (some ⟨D, 0, none⟩) 3 cap]) ∧ RI base m w' D cap xs' ∧ (∀ x ∈ xs', ∃ y ∈ xs, x.g = y.g) ∧ SS base [D] w w'
/-- The disk's flush, as a value. -/
def FlDV (base : Nat) (g : Bool) (w : World) (v : Value) (w' : World) : Prop := ∃ x : DA, v = x.v ∧ DI base 0 w' x ∧ x.g = g ∧ SS base [] w w'
theorem flD_v {base : Nat} {g : Bool} {w w' : World} {e : Ending} (h : FlD base g w e w') : ∃ v, e = .returned v ∧ FlDV base g w v w' := by
  obtain ⟨x, he, h⟩ := h
  exact ⟨_, he, x, rfl, h⟩

theorem fl_next {base m : Nat} {w wr w1 : World} {D cap k : Nat} {xs ys : List DA} {y : DA} {g : Bool} (hk : k < 3) (hR : RI base m wr D cap ys) (hG : ∀ x ∈ ys, ∃ y ∈ xs, x.g = y.g) (hS : SS base [D] w wr) (h1 : SS base [] wr w1) (hy : DI base 0 w1 y) (hyg : y.g = g) (hgk : ∃ z ∈ ys, z.g = g) :
    RI base m (((w1.setCell ⟨D, k * 3, none⟩ (.slice y.C y.nC y.cC)).setCell ⟨D, k * 3 + 1, none⟩ (.slice y.W y.nW y.cW)).setCell ⟨D, k * 3 + 2, none⟩ (.bool y.g)) D cap (ys.set k y) ∧
    (∀ x ∈ ys.set k y, ∃ z ∈ xs, x.g = z.g) ∧ SS base [D] w (((w1.setCell ⟨D, k * 3, none⟩ (.slice y.C y.nC y.cC)).setCell ⟨D, k * 3 + 1, none⟩ (.slice y.W y.nW y.cW)).setCell ⟨D, k * 3 + 2, none⟩ (.bool y.g)) := by
  obtain ⟨r1, s1⟩ := (hR.ss h1).set hk (hy.more (Nat.zero_le m))
  refine ⟨r1, fun x hx => ?_, (hS.trans (h1.more (by simp))).trans s1⟩
  rcases List.mem_or_eq_of_mem_set hx with hx | hx
  · exact hG x hx
  · obtain ⟨z, hz, e⟩ := hgk
    obtain ⟨u, hu, e2⟩ := hG z hz
    exact ⟨u, hu, by rw [hx, hyg, ← e, e2]⟩
theorem box_ss {base : Nat} {ex : List Nat} {w w' : World} {b : Nat} {cs : Array Value} {T : TypeId} (h : BoxAt w b cs T) (hs : SS base ex w w') (hT : T ≠ 9) (hx : b ∉ ex) : BoxAt w' b cs T := (hs.oth b T (Tag.box h) hT hx).trans h
theorem box_set3 {w : World} {b D : Nat} {cs : Array Value} {T : TypeId} (h : BoxAt w b cs T) (hne : b ≠ D) (j0 j1 j2 : Nat) (v0 v1 v2 : Value) : BoxAt (((w.setCell ⟨D, j0, none⟩ v0).setCell ⟨D, j1, none⟩ v1).setCell ⟨D, j2, none⟩ v2) b cs T :=
  ((h.set (p := ⟨D, j0, none⟩) hne v0).set (p := ⟨D, j1, none⟩) hne v1).set (p := ⟨D, j2, none⟩) hne v2

set_option maxHeartbeats 4000000 in
theorem l4Flush_any (w : World) (base m : Nat) (D cap : Nat) (xs : List DA) (h : RI base m w D cap xs) (hm : m < 100000) (hb : base ≤ w.heap.size) : Calls Try.prog 67 #[.agg #[.slice (some ⟨D, 0, none⟩) 3 cap]] w (FlR base m D cap xs w) := by
  have hc := h.cap3
  have hc3 := hc.1
  have hcm := hc.2
  have hDw := h.lt
  have HW0 := Lib.hid (below_alloc (below_alloc (Below.refl w.heap.size w) (.cells #[.slice (some ⟨D, 0, none⟩) 3 cap] 25)) (.cells #[.slice none 0 0] 25))
  have HI0 := Lib.hid (h.below hb HW0.out)
  have S0 := Lib.hid (show SS base [D] w _ from SS.of_below hb HW0.out)
  have BX0 := Lib.hid ((box_new w #[.slice (some ⟨D, 0, none⟩) 3 cap] 25).alloc (.cells #[.slice none 0 0] 25))
  have BR0 := box_new (w.alloc (.cells #[.slice (some ⟨D, 0, none⟩) 3 cap] 25)) #[.slice none 0 0] 25
  rw [World.size_alloc] at BR0
  replace BR0 := Lib.hid BR0
  have NM := Lib.hid (And.intro (show (Try.f69.name == "runtime.NumGoroutine") = false by kernel_rfl) (show Try.f69.body.isNone = false by kernel_rfl))
  clear h hc HW0
  go_enter Try.func67, Try.ntmps67
  go_wp2_with fail
  go_loopw [3] (fun i wr => ∃ (k : Nat) (ys : List DA), k ≤ 3 ∧ i = .int .i64 k ∧ Hid (RI base m wr D cap ys) ∧ Hid (∀ x ∈ ys, ∃ y ∈ xs, x.g = y.g) ∧ Hid (BoxAt wr w.heap.size #[.slice (some ⟨D, 0, none⟩) 3 cap] 25) ∧ Hid (BoxAt wr (w.heap.size + 1) #[.slice none 0 0] 25) ∧ Hid (SS base [D] w wr)) (fun i _ => 3 - (intOf i).toNat)
  case atStart => exact ⟨0, xs, by omega, rfl, HI0, Lib.hid (fun x hx => ⟨x, hx, rfl⟩), BX0, BR0, S0⟩
  case round =>
    clear HI0 BX0 BR0 S0
    obtain ⟨k, ys, hk, rfl, HI, HG, HX, HRB, HS⟩ := hrel
    have bx := HX.out.cell
    have bl := HX.out.lt
    have hDl := HI.out.lt
    have hbr : base ≤ wr.heap.size := by have := HS.out.bel.size; omega
    by_cases hlt : k < 3
    · obtain ⟨x, he, hdi, c0, c1, c2, f0, f1, f2⟩ := HI.out.at hlt
      have k2 : IntKind.i64.wrap ((k : Int) + 1) = (k : Int) + 1 := IntWalk.i64_in _ (by omega)
      have HC := Lib.hid (fun W (hs : SS base [] wr W) => ((l3Flush_any W base m x (hdi.ss hs) hm (by have := hs.bel.size; omega)).mono fun e w' h => (show ∃ v, e = .returned v ∧ FlDV base x.g W v w' from flD_v h)))
      have HGK := Lib.hid (show ∃ z ∈ ys, z.g = x.g from ⟨x, List.mem_of_getElem? he, rfl⟩)
      obtain ⟨xC, xnC, xcC, xW, xnW, xcW, xg⟩ := x
      unfold DA.v at HC
      dsimp only at *
      clear he hdi
      go_wp2_with fail
      go_region_law (first
        | (refine step_callR (f := 69) (vs := #[.agg #[.slice xC xnC xcC, .slice xW xnW xcW, .bool xg]]) (R := FlDV base xg wr.drew) Try.func69 NM.out.1 NM.out.2 rfl rfl (by simp [Act.eval, Act.put]) (HC.out _ (SS.refl.drew)) ?_; rintro v1 w1 ⟨⟨yC, ynC, ycC, yW, ynW, ycW, yg⟩, he, hi1, hg1, hs1⟩; unfold DA.v at he; dsimp only at he hg1; subst he; have hs2 : SS base [] wr w1 := SS.trans SS.refl.drew hs1; have HI1 := Lib.hid (HI.out.ss hs2); obtain ⟨x1, he1, _, d0, d1, d2, g0, g1, g2⟩ := HI1.out.at hlt; have BX1 := box_ss HX.out hs2 (by decide) (by simp); have bx1 := BX1.cell; have bl1 := BX1.lt; have HY1 := Lib.hid hi1; have HS1 := Lib.hid hs2; have hDl1 := HI1.out.lt; clear hs1 hs2 hi1 he1 BX1))
      all_goals
        have HN := Lib.hid (fl_next (xs := xs) hlt HI.out HG.out HS.out HS1.out HY1.out hg1 HGK.out)
        dsimp only at HN
        have ne1 : w.heap.size ≠ D := by omega
        have ne2 : w.heap.size + 1 ≠ D := by omega
        have X3 := Lib.hid (box_set3 (box_ss HX.out HS1.out (by decide) (by simp)) ne1 (k * 3) (k * 3 + 1) (k * 3 + 2) (.slice yC ynC ycC) (.slice yW ynW ycW) (.bool yg))
        have R3 := Lib.hid (box_set3 (box_ss HRB.out HS1.out (by decide) (by simp)) ne2 (k * 3) (k * 3 + 1) (k * 3 + 2) (.slice yC ynC ycC) (.slice yW ynW ycW) (.bool yg))
        rw [hg1] at HN X3 R3
        clear HI HG HX HRB HS HI1 HY1 HS1 HC HGK
        go_wp2_with fail
        go_roundw
        (case rel => exact ⟨k + 1, _, by omega, by go_num, Lib.hid HN.out.1, Lib.hid HN.out.2.1, X3, R3, Lib.hid HN.out.2.2⟩)
        (case measure => simp [intOf]; omega)
    · obtain rfl : k = 3 := by omega
      have br := HRB.out.cell
      have brf := HRB.out.froz
      have brl := HRB.out.lt
      have HP := Lib.hid (show FlR base m D cap xs w (.returned (.agg #[.slice (some ⟨D, 0, none⟩) 3 cap])) (wr.setCell ⟨w.heap.size + 1, 0, none⟩ (.slice (some ⟨D, 0, none⟩) 3 cap)) by
        have hs := SS.fresh (j := 0) (u := .slice (some ⟨D, 0, none⟩) 3 cap) HS.out hb (Nat.le_succ _) (Tag.box HRB.out) (by decide)
        have hk := KS.setX (w := wr) (j := 0) (u := .slice (some ⟨D, 0, none⟩) 3 cap) (Tag.box HRB.out) (by decide) (by decide)
        exact ⟨ys, rfl, ⟨own_one HI.out.row ((Kp.refl [w.heap.size + 1] wr).setCell (p := ⟨w.heap.size + 1, 0, none⟩) (.inl (by simp)) _) (by simp; omega), HI.out.len, fun x hx => (HI.out.each x hx).ks hk⟩, HG.out, hs⟩)
      clear HI HG HS hlt hk
      go_wp2_with fail
      refine bodyPost_ret (v := .agg #[.slice (some ⟨D, 0, none⟩) 3 cap]) (by simp [results, Try.results67, go_sem, br, brl]) rfl ?_
      exact HP.out

end Go.Proofs.Ytamljoffmkcbnaa
