/- What is drawn is written to the disks of a pool: l4Put. -/
import Derived.Test.YtamljoffmkcbnaaDrawPut
import Derived.Deep.CutRange
namespace Go.Proofs.Ytamljoffmkcbnaa
open Go.RowKit Go.Sort
set_option maxRecDepth 100000
set_option linter.unusedVariables false
set_option linter.unusedSimpArgs false

def PutR (base m : Nat) (D cap : Nat) (w : World) (e : Ending) (w' : World) : Prop := ∃ xs' : List DA, e = .returned (.tuple #[.agg #[.slice (some ⟨D, 0, none⟩) 3 cap], .bool true]) ∧ RI base m w' D cap xs' ∧ (∀ x ∈ xs', x.g = false) ∧ Kp [D] w w'
/-- The disks while they are written on: those from k on have one write less. -/
structure PutI (base m k : Nat) (w : World) (D cap : Nat) (xs : List DA) : Prop where
  ri : RI base (m + 1) w D cap xs
  gn : ∀ x ∈ xs, x.g = false
  lt : ∀ (i : Nat) (x : DA), xs[i]? = some x → k ≤ i → x.nW ≤ m
theorem PutI.below {base m k : Nat} {w w' : World} {D cap : Nat} {xs : List DA} (h : PutI base m k w D cap xs) (hb : base ≤ w.heap.size) (hB : Below w.heap.size w w') : PutI base m k w' D cap xs := ⟨h.ri.below hb hB, h.gn, h.lt⟩
theorem PutI.set {base m k : Nat} {w : World} {D cap : Nat} {xs : List DA} (h : PutI base m k w D cap xs) (hk : k < 3) {y : DA} (hy : DI base (m + 1) w y) (hg : y.g = false) :
    PutI base m (k + 1) (((w.setCell ⟨D, k * 3, none⟩ (.slice y.C y.nC y.cC)).setCell ⟨D, k * 3 + 1, none⟩ (.slice y.W y.nW y.cW)).setCell ⟨D, k * 3 + 2, none⟩ (.bool y.g)) D cap (xs.set k y) := by
  refine ⟨(h.ri.set hk hy).1, fun x hx => ?_, fun i x hi hki => ?_⟩
  · rcases List.mem_or_eq_of_mem_set hx with hx | hx
    · exact h.gn x hx
    · rw [hx]; exact hg
  · rw [List.getElem?_set_ne (by omega)] at hi
    exact h.lt i x hi (by omega)
theorem kp_setD {D j0 j1 j2 : Nat} {w : World} {v0 v1 v2 : Value} : Kp [D] w (((w.setCell ⟨D, j0, none⟩ v0).setCell ⟨D, j1, none⟩ v1).setCell ⟨D, j2, none⟩ v2) :=
  (((Kp.refl [D] w).setCell (.inl (by simp)) v0).setCell (.inl (by simp)) v1).setCell (.inl (by simp)) v2

theorem ks_set3P {w : World} {b : Nat} {cs : Array Value} (h : BoxAt w b cs 51) (v0 v1 v2 : Value) : KS w (((w.setCell ⟨b, 0, none⟩ v0).setCell ⟨b, 1, none⟩ v1).setCell ⟨b, 2, none⟩ v2) := by
  have t0 := Tag.box h
  have s1 := KS.setX (j := 0) (u := v0) t0 (by decide) (by decide)
  have s2 := KS.setX (j := 1) (u := v1) (t0.set b 0 v0) (by decide) (by decide)
  have s3 := KS.setX (j := 2) (u := v2) ((t0.set b 0 v0).set b 1 v1) (by decide) (by decide)
  exact (s1.trans s2).trans s3

set_option maxHeartbeats 8000000 in
theorem l4Put_any (w : World) (base m : Nat) (D cap : Nat) (xs : List DA) (at_ cb wb : Nat) (c0 c1 c2 : ByteArray) (h : RI base m w D cap xs) (hg : ∀ x ∈ xs, x.g = false) (hm : m < 100) (hb : base ≤ w.heap.size) (ha : at_ < 64)
    (hc : BoxAt w cb #[.string c0, .string c1, .string c2] 9) (h0 : c0.size ≤ 200) (h1 : c1.size ≤ 200) (h2 : c2.size ≤ 200) (hw : BoxAt w wb #[.bool true, .bool true, .bool true] 4) :
    Calls Try.prog 65 #[.agg #[.slice (some ⟨D, 0, none⟩) 3 cap], .int .i64 at_, .slice (some ⟨cb, 0, none⟩) 3 3, .slice (some ⟨wb, 0, none⟩) 3 3] w (PutR base (m + 1) D cap w) := by
  have hc3 := h.cap3.1
  have hcm := h.cap3.2
  have hDw := h.lt
  have neC : cb ≠ D := fun e => by
    have := (Tag.box hc).one (e ▸ h.tag)
    exact absurd this (by decide)
  have neW : wb ≠ D := fun e => by
    have := (Tag.box hw).one (e ▸ h.tag)
    exact absurd this (by decide)
  have HB0 := Lib.hid (below_alloc (below_alloc (Below.refl w.heap.size w) (.cells #[.slice (some ⟨D, 0, none⟩) 3 cap] 25)) (.cells #[.slice none 0 0] 25))
  have K0 := Lib.hid ((Kp.of_below HB0.out).all [D])
  have PI0 := Lib.hid (show PutI base m 0 w D cap xs from ⟨h.more (Nat.le_succ m), hg, fun i x hi _ => (h.each x (List.mem_of_getElem? hi)).m⟩)
  have PI1 := Lib.hid (PI0.out.below hb HB0.out)
  have BX0 := Lib.hid ((box_new w #[.slice (some ⟨D, 0, none⟩) 3 cap] 25).alloc (.cells #[.slice none 0 0] 25))
  have BR0 := box_new (w.alloc (.cells #[.slice (some ⟨D, 0, none⟩) 3 cap] 25)) #[.slice none 0 0] 25
  rw [World.size_alloc] at BR0
  replace BR0 := Lib.hid BR0
  have HC := Lib.hid hc
  have HWB := Lib.hid hw
  have hcl := hc.lt
  have hwl := hw.lt
  have ne1 : w.heap.size ≠ D := by omega
  have ne2 : w.heap.size + 1 ≠ D := by omega
  clear h hg hc hw PI0
  go_enter Try.func65, Try.ntmps65
  go_wp2_with fail
  go_loopw [10] (fun i wr => ∃ (k : Nat) (ys : List DA), k ≤ 3 ∧ i = .int .i64 k ∧ Hid (PutI base m k wr D cap ys) ∧ Hid (BoxAt wr w.heap.size #[.slice (some ⟨D, 0, none⟩) 3 cap] 25) ∧ Hid (BoxAt wr (w.heap.size + 1) #[.slice none 0 0] 25) ∧ Hid (Kp [D] w wr)) (fun i _ => 3 - (intOf i).toNat)
  case atStart => exact ⟨0, xs, by omega, rfl, PI1, BX0, BR0, K0⟩
  case round =>
    clear PI1 BX0 BR0 K0 HB0
    obtain ⟨k, ys, hk, rfl, HI, HX, HRB, HK⟩ := hrel
    have bx := HX.out.cell
    have bl := HX.out.lt
    have hDl := HI.out.ri.lt
    have hbr : base ≤ wr.heap.size := by have := HK.out.size; omega
    have BC := Lib.hid (HC.out.kp HK.out (by simpa using neC))
    have BW := Lib.hid (HWB.out.kp HK.out (by simpa using neW))
    have bcl := BC.out.lt
    have bwl := BW.out.lt
    by_cases hlt : k < 3
    · obtain ⟨x, he, hdi, d0, d1, d2, f0, f1, f2⟩ := HI.out.ri.at hlt
      have hxg := HI.out.gn x (List.mem_of_getElem? he)
      have hxm := HI.out.lt k x he (Nat.le_refl _)
      have k2 : IntKind.i64.wrap ((k : Int) + 1) = (k : Int) + 1 := IntWalk.i64_in _ (by omega)
      have hwc : wr.cell? ⟨wb, k, none⟩ = some (.bool true) := by
        rw [BW.out.cell k]
        rcases (show k = 0 ∨ k = 1 ∨ k = 2 by omega) with rfl | rfl | rfl <;> rfl
      obtain ⟨s, hs, hsz⟩ : ∃ s : ByteArray, wr.cell? ⟨cb, k, none⟩ = some (.string s) ∧ s.size ≤ 200 := by
        rw [BC.out.cell k]
        rcases (show k = 0 ∨ k = 1 ∨ k = 2 by omega) with rfl | rfl | rfl
        · exact ⟨c0, rfl, h0⟩
        · exact ⟨c1, rfl, h1⟩
        · exact ⟨c2, rfl, h2⟩
      have HCL := Lib.hid (fun W (hB : Below wr.heap.size wr W) => l3Write_any W base m x at_ s ({ hdi.ks (KS.below hB) with m := hxm }) hxg hm (by have := hB.size; omega) ha hsz)
      obtain ⟨xC, xnC, xcC, xW, xnW, xcW, xg⟩ := x
      dsimp only at hxg
      subst hxg
      unfold DA.v at HCL
      dsimp only at *
      clear he hdi hxm
      go_upto_region 5 with fail
      have hdk : decide ((k : Int) < 3) = true := by simp; omega
      rw [hdk]
      clear hdk
      have HKP := Lib.hid (fun W (hB : Below wr.heap.size wr W) => (show W.cell? ⟨w.heap.size, 0, none⟩ = some (.slice (some ⟨D, 0, none⟩) 3 cap) ∧ W.cell? ⟨D, k * 3, none⟩ = some (.slice xC xnC xcC) ∧ W.cell? ⟨D, k * 3 + 1, none⟩ = some (.slice xW xnW xcW) ∧ W.cell? ⟨D, k * 3 + 2, none⟩ = some (.bool false) ∧ W.cell? ⟨cb, k, none⟩ = some (.string s) from
        ⟨(HX.out.below hB).cell 0, (hB.cell (p := ⟨D, k * 3, none⟩) hDl).trans d0, (hB.cell (p := ⟨D, k * 3 + 1, none⟩) hDl).trans d1, (hB.cell (p := ⟨D, k * 3 + 2, none⟩) hDl).trans d2, (hB.cell (p := ⟨cb, k, none⟩) bcl).trans hs⟩))
      go_cut [11, 12] from 33 to 47 (fun a b wx => ∃ (B : Nat) (yC : Option Addr) (ynC ycC : Nat) (yW : Option Addr) (ynW ycW : Nat), a = .pointer (some ⟨B, 0, none⟩) ∧ b = .bool true ∧ Hid (BoxAt wx B #[.slice yC ynC ycC, .slice yW ynW ycW, .bool false] 51) ∧ Hid (DI base (m + 1) wx ⟨yC, ynC, ycC, yW, ynW, ycW, false⟩) ∧ Hid (Below wr.heap.size wr wx))
      case first =>
        go_region_held3 (fun w' => w'.cell? ⟨w.heap.size, 0, none⟩ = some (.slice (some ⟨D, 0, none⟩) 3 cap) ∧ w'.cell? ⟨D, k * 3, none⟩ = some (.slice xC xnC xcC) ∧ w'.cell? ⟨D, k * 3 + 1, none⟩ = some (.slice xW xnW xcW) ∧ w'.cell? ⟨D, k * 3 + 2, none⟩ = some (.bool false) ∧ w'.cell? ⟨cb, k, none⟩ = some (.string s)) (first | exact HKP.out _ (by (repeat (first | assumption | exact Below.refl _ _ | refine below_alloc ?_ _ | refine Below.drew ?_ | refine below_drewN ?_ _ | refine below_set ?_ (Nat.le_refl _) _ | refine below_below ?_ (by assumption)))))
          (first
            | (go_at_call 91; refine Calls.mono (HCL.out _ (by (repeat (first | assumption | exact Below.refl _ _ | refine below_alloc ?_ _ | refine Below.drew ?_ | refine below_drewN ?_ _ | refine below_below ?_ (by assumption))))) ?_; rintro e w2 ⟨⟨yC, ynC, ycC, yW, ynW, ycW, yg⟩, he, hi2, hg2, hB2⟩; unfold DA.v at he; dsimp only at he hg2; subst he; subst hg2; have HY2 := Lib.hid hi2; clear hi2; (try (have hBa : Below (wr.alloc (.cells #[.slice none 0 0, .slice none 0 0, .bool false] 51)).heap.size (wr.alloc (.cells #[.slice none 0 0, .slice none 0 0, .bool false] 51)) w2 := ⟨hB2.os, hB2.tape, hB2.output, hB2.size, hB2.block⟩; have BF := Lib.hid (BoxAt.below (box_new wr _ _) hBa); have bf1 := BF.out.cell; have bf2 := BF.out.froz; have bf3 := BF.out.lt))))
        · have hWB : Below wr.heap.size wr w2 := by (repeat (first | assumption | exact Below.refl _ _ | refine below_alloc ?_ _ | refine Below.drew ?_ | refine below_drewN ?_ _ | refine below_below ?_ (by assumption)))
          go_wp2_with fail
          go_meet
          case rel => exact ⟨w2.heap.size, yC, ynC, ycC, yW, ynW, ycW, rfl, rfl, Lib.hid (box_new w2 _ _), Lib.hid (HY2.out.ks (KS.below (below_alloc (Below.refl _ _) _))), Lib.hid (below_alloc hWB _)⟩
        · have hWB : Below wr.heap.size wr w2 := by (repeat (first | assumption | exact Below.refl _ _ | refine below_alloc ?_ _ | refine Below.drew ?_ | refine below_drewN ?_ _ | refine below_below ?_ (by assumption)))
          go_wp2_with fail
          go_meet
          case rel => exact ⟨wr.heap.size, yC, ynC, ycC, yW, ynW, ycW, rfl, rfl, Lib.hid (box_putB (box_putB (box_putB BF.out 0 _) 1 _) 2 _), Lib.hid (HY2.out.ks (ks_set3P BF.out _ _ _)), Lib.hid (below_set (below_set (below_set hWB (Nat.le_refl _) _) (Nat.le_refl _) _) (Nat.le_refl _) _)⟩
      case rest =>
        obtain ⟨B, yC, ynC, ycC, yW, ynW, ycW, rfl, rfl, HY, HYI, HBx⟩ := hcut
        have hX1 := HX.out.below HBx.out
        have bx1 := hX1.cell
        have bl1 := hX1.lt
        have hR1 := HRB.out.below HBx.out
        have by1 := HY.out.cell
        have byl := HY.out.lt
        have HI1 := Lib.hid (HI.out.below hbr HBx.out)
        have hDl1 := HI1.out.ri.lt
        obtain ⟨_, _, _, e0, e1, e2, g0, g1, g2⟩ := HI1.out.ri.at hlt
        have HN := Lib.hid (HI1.out.set hlt HYI.out rfl)
        dsimp only at HN
        have X3 := Lib.hid (box_set3 hX1 ne1 (k * 3) (k * 3 + 1) (k * 3 + 2) (.slice yC ynC ycC) (.slice yW ynW ycW) (.bool false))
        have R3 := Lib.hid (box_set3 hR1 ne2 (k * 3) (k * 3 + 1) (k * 3 + 2) (.slice yC ynC ycC) (.slice yW ynW ycW) (.bool false))
        have K3 := Lib.hid ((HK.out.trans ((Kp.of_below HBx.out).all [D])).trans (kp_setD (D := D) (j0 := k * 3) (j1 := k * 3 + 1) (j2 := k * 3 + 2) (v0 := .slice yC ynC ycC) (v1 := .slice yW ynW ycW) (v2 := .bool false)))
        clear HI HX HRB HK HI1 HYI HKP HCL hX1 hR1 bx bl
        go_wp2_with fail
        go_roundw
        case rel => exact ⟨k + 1, _, by omega, by go_num, HN, X3, R3, K3⟩
        case measure => simp [intOf]; omega
    · obtain rfl : k = 3 := by omega
      have br := HRB.out.cell
      have brf := HRB.out.froz
      have brl := HRB.out.lt
      have HP := Lib.hid (show PutR base (m + 1) D cap w (.returned (.tuple #[.agg #[.slice (some ⟨D, 0, none⟩) 3 cap], .bool true])) (wr.setCell ⟨w.heap.size + 1, 0, none⟩ (.slice (some ⟨D, 0, none⟩) 3 cap)) by
        have hk := KS.setX (w := wr) (j := 0) (u := .slice (some ⟨D, 0, none⟩) 3 cap) (Tag.box HRB.out) (by decide) (by decide)
        exact ⟨ys, rfl, ⟨own_one HI.out.ri.row ((Kp.refl [w.heap.size + 1] wr).setCell (p := ⟨w.heap.size + 1, 0, none⟩) (.inl (by simp)) _) (by simp; omega), HI.out.ri.len, fun x hx => (HI.out.ri.each x hx).ks hk⟩, HI.out.gn, HK.out.setCell (.inr (by dsimp only; omega)) _⟩)
      clear HI HK hlt hk
      go_wp2_with fail
      refine bodyPost_ret (v := .tuple #[.agg #[.slice (some ⟨D, 0, none⟩) 3 cap], .bool true]) (by simp [results, Try.results65, go_sem, br, brl]) rfl ?_
      exact HP.out

end Go.Proofs.Ytamljoffmkcbnaa
