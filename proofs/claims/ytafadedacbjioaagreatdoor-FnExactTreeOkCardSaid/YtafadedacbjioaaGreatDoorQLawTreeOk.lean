/- FnExactTreeOk returns true for every store and every tree. The package-level variables that its row lists are tied; no condition of ours. -/
import Derived.Test.YtafadedacbjioaaGreatDoorMC
import Derived.Deep.CutRange
import Derived.Deep.RegionHeld3
namespace Go.Proofs.YtafadedacbjioaaGreatDoor.lawExactTreeOk
open Go.ChangeShapes Go.WideShapes Go.ChangeAt Go.RowKit Go.Sort
set_option maxRecDepth 100000
set_option linter.unusedVariables false
set_option linter.unusedSimpArgs false

theorem maxAt_of {W : World} (h : W.ShapedOpen Tryz.prog) : MaxAt W := Tryz.laysM146.s1_3 W h
theorem st8 {w : World} {b : Nat} {c0 c1 c2 c3 c4 c5 c6 c7 : Value} {T : TypeId} (h : BoxAt w b #[c0, c1, c2, c3, c4, c5, c6, c7] T) :
    w.cell? ⟨b, 0, none⟩ = some c0 ∧ w.cell? ⟨b, 1, none⟩ = some c1 ∧ w.cell? ⟨b, 2, none⟩ = some c2 ∧ w.cell? ⟨b, 3, none⟩ = some c3 ∧ w.cell? ⟨b, 4, none⟩ = some c4 ∧ w.cell? ⟨b, 5, none⟩ = some c5 ∧ w.cell? ⟨b, 6, none⟩ = some c6 ∧ w.cell? ⟨b, 7, none⟩ = some c7 :=
  ⟨h.cell 0, h.cell 1, h.cell 2, h.cell 3, h.cell 4, h.cell 5, h.cell 6, h.cell 7⟩


set_option maxHeartbeats 8000000 in
theorem walk (w : World) (x : SA) (s : St) (tr0 : Tr) (h : SRd w x s) (hz : ∀ r ∈ s.rows, r.size ≤ 9223372036854775807) (hM : MaxAt w) (hT : TenAt w) (hE : ErrAt w) :
    Calls Tryz.prog 6 #[x.v s.txg s.keep s.same, tr0.v] w fun e w' => e = .returned (.bool true) ∧ Below w.heap.size w w' := by
  have HX := Lib.hid h
  have LB := Lib.hid (And.intro hM (And.intro hT hE))
  have SZ := Lib.hid (fun W (hB : Below w.heap.size w W) => szStore_any W x s (HX.out.below hB) hz)
  have TS := Lib.hid (fun (hb : x.nR ≤ 1048576 ∧ x.nA ≤ 1048576 ∧ x.nB ≤ 1048576 ∧ x.nG ≤ 1048576 ∧ x.nD ≤ 1048576) W (hB : Below w.heap.size w W) => toStore_any W x s (HX.out.below hB) hb.1 hb.2.1 hb.2.2.1 hb.2.2.2.1 hb.2.2.2.2)
  have TT0 := Lib.hid (fun W => toTreeT_any tr0 W)
  have SO := Lib.hid (fun W (y : SA) (h : SRd W y s) g d => (specTreeOk_any W y s tr0 h g d hz : Calls Tryz.prog 27 #[SA.v y s.txg s.keep s.same, tr0.v] W (OkP W s tr0)))
  have IO := Lib.hid (fun W (y : SA) (h : SRd W y s) (hB : Below w.heap.size w W) g d => (treeOk_any W y s tr0 h g d hz (LB.out.1.below hB) (LB.out.2.1.below hB) (LB.out.2.2.below hB) : Calls Tryz.prog 28 #[SA.v y s.txg s.keep s.same, tr0.v] W (OkP W s tr0)))
  have EQ := Lib.hid (fun W (y z : SA) (h : SRd W y s) (h' : SRd W z s) => eqStore_true W y z s h h')
  have LG := Lib.hid HX.out.lG
  have LD := Lib.hid HX.out.lD
  unfold OkP at SO IO
  generalize hPP : (storeB s = true ∧ ∃ out, TrOk s.rows s.txg tr0 out) = PP at *
  have HPP := Lib.hid hPP
  clear hPP
  clear h HX hM hT hE hz
  obtain ⟨⟨ra0, rb0, rs0, ru0, rl0⟩, dep0, many0⟩ := tr0
  obtain ⟨R, nR, cR, A, nA, cA, B, nB, cB, G, nG, cG, D, nD, cD⟩ := x
  obtain ⟨rows, refs, last, txg, gone, keep, dead, same⟩ := s
  unfold SA.v Tr.v at *
  dsimp only at *
  have HBw := Lib.hid (below_alloc (below_alloc (Below.refl w.heap.size w) (.cells #[.slice R nR cR, .slice A nA cA, .slice B nB cB, .int .i64 txg, .slice G nG cG, .int .i64 keep, .slice D nD cD, .bool same] 28)) (.cells #[.int .i64 ra0, .int .i64 rb0, .int .i64 rs0, .int .i64 ru0, .int .i64 rl0, .int .i64 dep0, .int .i64 many0] 32))
  have BB0 := (box_new w #[.slice R nR cR, .slice A nA cA, .slice B nB cB, .int .i64 txg, .slice G nG cG, .int .i64 keep, .slice D nD cD, .bool same] 28).alloc (.cells #[.int .i64 ra0, .int .i64 rb0, .int .i64 rs0, .int .i64 ru0, .int .i64 rl0, .int .i64 dep0, .int .i64 many0] 32)
  replace BB0 := Lib.hid BB0
  have BB1 := box_new (w.alloc (.cells #[.slice R nR cR, .slice A nA cA, .slice B nB cB, .int .i64 txg, .slice G nG cG, .int .i64 keep, .slice D nD cD, .bool same] 28)) #[.int .i64 ra0, .int .i64 rb0, .int .i64 rs0, .int .i64 ru0, .int .i64 rl0, .int .i64 dep0, .int .i64 many0] 32
  simp only [World.size_alloc] at BB1
  replace BB1 := Lib.hid BB1
  go_enter Tryz.func6, Tryz.ntmps6
  go_wp2_with fail
  refine Calls.mono (SZ.out _ HBw.out) ?_
  rintro e w1 ⟨z, rfl, hzz, hB⟩
  have BX0 := Lib.hid (BB0.out.below hB)
  have BX1 := Lib.hid (BB1.out.below hB)
  have HB1 := below_below HBw.out hB
  clear hB HBw SZ BB0 BB1
  by_cases hneg : z < 0
  · go_wp2_with fail
    go_ret
    exact ⟨rfl, HB1⟩
  have hbb := hzz (by omega)
  have T1 := Lib.hid (TS.out hbb)
  dsimp only at hbb
  have HGG := Lib.hid (show gone.length ≤ 1048576 by have := LG.out; have := hbb.2.2.2.1; omega)
  have HDD := Lib.hid (show dead.length ≤ 1048576 by have := LD.out; have := hbb.2.2.2.2; omega)
  clear hzz hbb TS
  have bx0 := BX0.out.cell
  have bl0 := BX0.out.lt
  have bx1 := BX1.out.cell
  have bl1 := BX1.out.lt
  go_wp2_with fail
  --H5
  go_region_held3 (fun w' => (w'.cell? ⟨w.heap.size, 0, none⟩ = some (.slice R nR cR) ∧ w'.cell? ⟨w.heap.size, 1, none⟩ = some (.slice A nA cA) ∧ w'.cell? ⟨w.heap.size, 2, none⟩ = some (.slice B nB cB) ∧ w'.cell? ⟨w.heap.size, 3, none⟩ = some (.int .i64 txg) ∧ w'.cell? ⟨w.heap.size, 4, none⟩ = some (.slice G nG cG) ∧ w'.cell? ⟨w.heap.size, 5, none⟩ = some (.int .i64 keep) ∧ w'.cell? ⟨w.heap.size, 6, none⟩ = some (.slice D nD cD) ∧ w'.cell? ⟨w.heap.size, 7, none⟩ = some (.bool same)) ∧ (w'.cell? ⟨w.heap.size + 1, 0, none⟩ = some (.int .i64 ra0) ∧ w'.cell? ⟨w.heap.size + 1, 1, none⟩ = some (.int .i64 rb0) ∧ w'.cell? ⟨w.heap.size + 1, 2, none⟩ = some (.int .i64 rs0) ∧ w'.cell? ⟨w.heap.size + 1, 3, none⟩ = some (.int .i64 ru0) ∧ w'.cell? ⟨w.heap.size + 1, 4, none⟩ = some (.int .i64 rl0) ∧ w'.cell? ⟨w.heap.size + 1, 5, none⟩ = some (.int .i64 dep0) ∧ w'.cell? ⟨w.heap.size + 1, 6, none⟩ = some (.int .i64 many0))) (first | exact ⟨st8 (BX0.out.below (by (repeat (first | assumption | exact Below.refl _ _ | refine below_alloc ?_ _ | refine Below.drew ?_ | refine below_drewN ?_ _ | refine below_below ?_ (by assumption))))), tree_cellsL (BX1.out.below (by (repeat (first | assumption | exact Below.refl _ _ | refine below_alloc ?_ _ | refine Below.drew ?_ | refine below_drewN ?_ _ | refine below_below ?_ (by assumption)))))⟩)
    (first
      | (have _g := G3; go_at_call 27; clear _g; refine Calls.mono (SO.out _ ⟨R8, nR8, cR8, A8, nA8, cA8, B8, nB8, cB8, G8, nG8, cG8, D8, nD8, cD8⟩ (X2.out.below (by (repeat (first | assumption | exact Below.refl _ _ | refine below_alloc ?_ _ | refine Below.drew ?_ | refine below_drewN ?_ _ | refine below_below ?_ (by assumption))))) (by have := X2.out.lG; have := HGG.out; dsimp only at *; omega) (by have := X2.out.lD; have := HDD.out; dsimp only at *; omega)) ?_; rintro e w4 ⟨oka, rfl, hS4, hB4⟩; have HS4 := Lib.hid hS4; clear hS4)
      | (go_at_call 13; refine Calls.mono (TT0.out _) ?_; rintro e w3_0 ⟨rfl, hB3_0⟩; have G3p0 := Lib.hid hB3_0; have G3 := Lib.hid hB3_0)
      | (go_at_call 12; refine Calls.mono (T1.out _ (by refine below_below HB1 ?_; (repeat (first | assumption | exact Below.refl _ _ | refine below_alloc ?_ _ | refine Below.drew ?_ | refine below_drewN ?_ _ | refine below_below ?_ (by assumption))))) ?_; rintro e w2 ⟨⟨R8, nR8, cR8, A8, nA8, cA8, B8, nB8, cB8, G8, nG8, cG8, D8, nD8, cD8⟩, he, hr, hB2⟩; unfold SA.v at he; dsimp only at he; subst he; have X2 := Lib.hid hr; clear hr))
  have H14 := Lib.hid (show Below w1.heap.size w1 w4 from by (repeat (first | assumption | exact Below.refl _ _ | refine below_alloc ?_ _ | refine Below.drew ?_ | refine below_drewN ?_ _ | refine below_below ?_ (by assumption))))
  have BY0 := Lib.hid (BX0.out.below H14.out)
  have BY1 := Lib.hid (BX1.out.below H14.out)
  have HB4 := below_below HB1 H14.out
  clear bx0 bl0 BX0 bx1 bl1 BX1 hB2 hB4 hB3_0 G3p0 G3 X2 H14 HB1
  have bx0 := BY0.out.cell
  have bl0 := BY0.out.lt
  have bx1 := BY1.out.cell
  have bl1 := BY1.out.lt
  go_wp2_with fail
  refine Calls.mono (T1.out _ HB4) ?_
  rintro e w5 ⟨⟨R5, nR5, cR5, A5, nA5, cA5, B5, nB5, cB5, G5, nG5, cG5, D5, nD5, cD5⟩, he, hr, hB5⟩
  unfold SA.v at he
  dsimp only at he
  subst he
  have X5 := Lib.hid (hr.below (below_alloc (Below.refl w5.heap.size w5) (.cells #[.slice R5 nR5 cR5, .slice A5 nA5 cA5, .slice B5 nB5 cB5, .int .i64 txg, .slice G5 nG5 cG5, .int .i64 keep, .slice D5 nD5 cD5, .bool same] 38)))
  have BZ := Lib.hid (box_new w5 #[.slice R5 nR5 cR5, .slice A5 nA5 cA5, .slice B5 nB5 cB5, .int .i64 txg, .slice G5 nG5 cG5, .int .i64 keep, .slice D5 nD5 cD5, .bool same] 38)
  have BV0 := Lib.hid ((BY0.out.below hB5).alloc (.cells #[.slice R5 nR5 cR5, .slice A5 nA5 cA5, .slice B5 nB5 cB5, .int .i64 txg, .slice G5 nG5 cG5, .int .i64 keep, .slice D5 nD5 cD5, .bool same] 38))
  have BV1 := Lib.hid ((BY1.out.below hB5).alloc (.cells #[.slice R5 nR5 cR5, .slice A5 nA5 cA5, .slice B5 nB5 cB5, .int .i64 txg, .slice G5 nG5 cG5, .int .i64 keep, .slice D5 nD5 cD5, .bool same] 38))
  have HB6 := below_alloc (below_below HB4 hB5) (.cells #[.slice R5 nR5 cR5, .slice A5 nA5 cA5, .slice B5 nB5 cB5, .int .i64 txg, .slice G5 nG5 cG5, .int .i64 keep, .slice D5 nD5 cD5, .bool same] 38)
  clear hB5 hr HB4 bx0 bl0 BY0 bx1 bl1 BY1
  have hz5 : w5.heap.size < (w5.alloc (.cells #[.slice R5 nR5 cR5, .slice A5 nA5 cA5, .slice B5 nB5 cB5, .int .i64 txg, .slice G5 nG5 cG5, .int .i64 keep, .slice D5 nD5 cD5, .bool same] 38)).heap.size := by simp
  go_wp2_with fail
  generalize w5.alloc (.cells #[.slice R5 nR5 cR5, .slice A5 nA5 cA5, .slice B5 nB5 cB5, .int .i64 txg, .slice G5 nG5 cG5, .int .i64 keep, .slice D5 nD5 cD5, .bool same] 38) = W6 at *
  have bx0 := BV0.out.cell
  have bl0 := BV0.out.lt
  have bx1 := BV1.out.cell
  have bl1 := BV1.out.lt
  have bz := BZ.out.cell
  --H7
  go_region_held3 (fun w' => (w'.cell? ⟨w5.heap.size, 0, none⟩ = some (.slice R5 nR5 cR5) ∧ w'.cell? ⟨w5.heap.size, 1, none⟩ = some (.slice A5 nA5 cA5) ∧ w'.cell? ⟨w5.heap.size, 2, none⟩ = some (.slice B5 nB5 cB5) ∧ w'.cell? ⟨w5.heap.size, 3, none⟩ = some (.int .i64 txg) ∧ w'.cell? ⟨w5.heap.size, 4, none⟩ = some (.slice G5 nG5 cG5) ∧ w'.cell? ⟨w5.heap.size, 5, none⟩ = some (.int .i64 keep) ∧ w'.cell? ⟨w5.heap.size, 6, none⟩ = some (.slice D5 nD5 cD5) ∧ w'.cell? ⟨w5.heap.size, 7, none⟩ = some (.bool same)) ∧ (w'.cell? ⟨w.heap.size + 1, 0, none⟩ = some (.int .i64 ra0) ∧ w'.cell? ⟨w.heap.size + 1, 1, none⟩ = some (.int .i64 rb0) ∧ w'.cell? ⟨w.heap.size + 1, 2, none⟩ = some (.int .i64 rs0) ∧ w'.cell? ⟨w.heap.size + 1, 3, none⟩ = some (.int .i64 ru0) ∧ w'.cell? ⟨w.heap.size + 1, 4, none⟩ = some (.int .i64 rl0) ∧ w'.cell? ⟨w.heap.size + 1, 5, none⟩ = some (.int .i64 dep0) ∧ w'.cell? ⟨w.heap.size + 1, 6, none⟩ = some (.int .i64 many0))) (first | exact ⟨st8 (BZ.out.below (by (repeat (first | assumption | exact Below.refl _ _ | refine below_alloc ?_ _ | refine Below.drew ?_ | refine below_drewN ?_ _ | refine below_below ?_ (by assumption))))), tree_cellsL (BV1.out.below (by (repeat (first | assumption | exact Below.refl _ _ | refine below_alloc ?_ _ | refine Below.drew ?_ | refine below_drewN ?_ _ | refine below_below ?_ (by assumption)))))⟩)
    (first
      | (have _g := G7; go_at_call 28; clear _g; refine Calls.mono (IO.out _ ⟨R5, nR5, cR5, A5, nA5, cA5, B5, nB5, cB5, G5, nG5, cG5, D5, nD5, cD5⟩ (X5.out.below (by (repeat (first | assumption | exact Below.refl _ _ | refine below_alloc ?_ _ | refine Below.drew ?_ | refine below_drewN ?_ _ | refine below_below ?_ (by assumption))))) (by refine below_below HB6 ?_; (repeat (first | assumption | exact Below.refl _ _ | refine below_alloc ?_ _ | refine Below.drew ?_ | refine below_drewN ?_ _ | refine below_below ?_ (by assumption)))) (by have := X5.out.lG; have := HGG.out; dsimp only at *; omega) (by have := X5.out.lD; have := HDD.out; dsimp only at *; omega)) ?_; rintro e w8 ⟨okb, rfl, hS8, hB8⟩; have HS8 := Lib.hid hS8; clear hS8)
      | (go_at_call 13; refine Calls.mono (TT0.out _) ?_; rintro e w7_0 ⟨rfl, hB7_0⟩; have G7p0 := Lib.hid hB7_0; have G7 := Lib.hid hB7_0))
  have H68 := Lib.hid (show Below W6.heap.size W6 w8 from by (repeat (first | assumption | exact Below.refl _ _ | refine below_alloc ?_ _ | refine Below.drew ?_ | refine below_drewN ?_ _ | refine below_below ?_ (by assumption))))
  have HB8 := below_below HB6 H68.out
  have BZ8 := Lib.hid (BZ.out.below H68.out)
  have X8 := Lib.hid (X5.out.below H68.out)
  have BV8 := Lib.hid (BV0.out.below H68.out)
  clear hz5 bz hB8 hB7_0 G7p0 G7 bx0 bl0 BV0 bx1 bl1 BV1 BZ X5 H68 HB6 SO IO TT0
  obtain rfl := okP_one (HPP.out ▸ HS4.out) (HPP.out ▸ HS8.out)
  have e1 : (oka != oka) = false := by simp
  have bz := BZ8.out.cell
  have bzl := BZ8.out.lt
  have bv := BV8.out.cell
  have bvl := BV8.out.lt
  go_wp2_with fail
  --H10
  go_region_held3 (fun w' => (w'.cell? ⟨w5.heap.size, 0, none⟩ = some (.slice R5 nR5 cR5) ∧ w'.cell? ⟨w5.heap.size, 1, none⟩ = some (.slice A5 nA5 cA5) ∧ w'.cell? ⟨w5.heap.size, 2, none⟩ = some (.slice B5 nB5 cB5) ∧ w'.cell? ⟨w5.heap.size, 3, none⟩ = some (.int .i64 txg) ∧ w'.cell? ⟨w5.heap.size, 4, none⟩ = some (.slice G5 nG5 cG5) ∧ w'.cell? ⟨w5.heap.size, 5, none⟩ = some (.int .i64 keep) ∧ w'.cell? ⟨w5.heap.size, 6, none⟩ = some (.slice D5 nD5 cD5) ∧ w'.cell? ⟨w5.heap.size, 7, none⟩ = some (.bool same)) ∧ (w'.cell? ⟨w.heap.size, 0, none⟩ = some (.slice R nR cR) ∧ w'.cell? ⟨w.heap.size, 1, none⟩ = some (.slice A nA cA) ∧ w'.cell? ⟨w.heap.size, 2, none⟩ = some (.slice B nB cB) ∧ w'.cell? ⟨w.heap.size, 3, none⟩ = some (.int .i64 txg) ∧ w'.cell? ⟨w.heap.size, 4, none⟩ = some (.slice G nG cG) ∧ w'.cell? ⟨w.heap.size, 5, none⟩ = some (.int .i64 keep) ∧ w'.cell? ⟨w.heap.size, 6, none⟩ = some (.slice D nD cD) ∧ w'.cell? ⟨w.heap.size, 7, none⟩ = some (.bool same))) (first | exact ⟨st8 (BZ8.out.below (by (repeat (first | assumption | exact Below.refl _ _ | refine below_alloc ?_ _ | refine Below.drew ?_ | refine below_drewN ?_ _ | refine below_below ?_ (by assumption))))), st8 (BV8.out.below (by (repeat (first | assumption | exact Below.refl _ _ | refine below_alloc ?_ _ | refine Below.drew ?_ | refine below_drewN ?_ _ | refine below_below ?_ (by assumption)))))⟩)
    (first
      | (go_at_call 12; refine Calls.mono (T1.out _ (by refine below_below HB8 ?_; (repeat (first | assumption | exact Below.refl _ _ | refine below_alloc ?_ _ | refine Below.drew ?_ | refine below_drewN ?_ _ | refine below_below ?_ (by assumption))))) ?_; rintro e w9 ⟨⟨R9, nR9, cR9, A9, nA9, cA9, B9, nB9, cB9, G9, nG9, cG9, D9, nD9, cD9⟩, he, hr, hB9⟩; unfold SA.v at he; dsimp only at he; subst he; have X9 := Lib.hid hr; clear hr)
      | (go_at_call 15; refine Calls.mono (EQ.out _ ⟨R5, nR5, cR5, A5, nA5, cA5, B5, nB5, cB5, G5, nG5, cG5, D5, nD5, cD5⟩ ⟨R9, nR9, cR9, A9, nA9, cA9, B9, nB9, cB9, G9, nG9, cG9, D9, nD9, cD9⟩ (X8.out.below (by (repeat (first | assumption | exact Below.refl _ _ | refine below_alloc ?_ _ | refine Below.drew ?_ | refine below_drewN ?_ _ | refine below_below ?_ (by assumption))))) (X9.out.below (by (repeat (first | assumption | exact Below.refl _ _ | refine below_alloc ?_ _ | refine Below.drew ?_ | refine below_drewN ?_ _ | refine below_below ?_ (by assumption)))))) ?_; rintro e wa ⟨rfl, hBa⟩))
  go_wp2_with fail
  go_ret
  exact ⟨rfl, below_below HB8 (by (repeat (first | assumption | exact Below.refl _ _ | refine below_alloc ?_ _ | refine Below.drew ?_ | refine below_drewN ?_ _ | refine below_below ?_ (by assumption))))⟩

theorem laid_met (os : Os) : laidMet Tryz.prog Rows.fnExactTreeOkRow.laid ((World.laidAll Tryz.prog os Rows.fnExactTreeOkRow.laid).forCall (fun _ _ => 0) ⟨#[], #[.agg #[.slice none 0 0, .slice none 0 0, .slice none 0 0, .int .i64 0, .slice none 0 0, .int .i64 0, .slice none 0 0, .bool false], .agg #[.int .i64 0, .int .i64 0, .int .i64 0, .int .i64 0, .int .i64 0, .int .i64 0, .int .i64 0]], []⟩).memory := laidMet_laidAll _ (by kernel_rfl) (by kernel_rfl)
theorem reads (os : Os) {H : Type} (enc : TypeId × Value → H) : ∃ places, DataW.whole enc Tryz.prog ((World.laidAll Tryz.prog os Rows.fnExactTreeOkRow.laid).forCall (fun _ _ => 0) ⟨#[], #[.agg #[.slice none 0 0, .slice none 0 0, .slice none 0 0, .int .i64 0, .slice none 0 0, .int .i64 0, .slice none 0 0, .bool false], .agg #[.int .i64 0, .int .i64 0, .int .i64 0, .int .i64 0, .int .i64 0, .int .i64 0, .int .i64 0]], []⟩).memory Tryz.f6.params.toList Rows.fnExactTreeOkSpec.vars false (#[.agg #[.slice none 0 0, .slice none 0 0, .slice none 0 0, .int .i64 0, .slice none 0 0, .int .i64 0, .slice none 0 0, .bool false], .agg #[.int .i64 0, .int .i64 0, .int .i64 0, .int .i64 0, .int .i64 0, .int .i64 0, .int .i64 0]] : Array Value).toList 8 = some ([.agg [.nil, .agg [.nil, .nil], .lit (.int .i64 0), .nil, .lit (.int .i64 0), .nil, .lit (.bool false)], .agg [.agg [.lit (.int .i64 0), .lit (.int .i64 0), .lit (.int .i64 0), .lit (.int .i64 0), .lit (.int .i64 0)], .lit (.int .i64 0), .lit (.int .i64 0)]], [], places) :=
  ⟨[], by kernel_rfl⟩

set_option maxRecDepth 100000 in
theorem lifted (os : Os) (started : os.Started) (H : Type) (enc : TypeId × Value → H) (F : Stop.Interp) :
    ReturnsInHanded {} Tryz.checked os 6 .any ((OpenSpec.ofChange Rows.fnExactTreeOkSpec).preRow enc Tryz.prog Tryz.f6 Rows.fnExactTreeOkRow.domain false Rows.fnExactTreeOkRow.laid) (((OpenSpec.ofChange Rows.fnExactTreeOkSpec).at F).post enc Tryz.prog Tryz.f6 false true false false) := by
  obtain ⟨places, hx⟩ := reads os enc
  refine returnsInHanded_of_row (C := Tryz.checked) (s := OpenSpec.ofChange Rows.fnExactTreeOkSpec) own started (by kernel_rfl) Tryz.func6
    (witness_row_at (enc := enc) (C := Tryz.checked) false (World.laidAll Tryz.prog os Rows.fnExactTreeOkRow.laid) #[.agg #[.slice none 0 0, .slice none 0 0, .slice none 0 0, .int .i64 0, .slice none 0 0, .int .i64 0, .slice none 0 0, .bool false], .agg #[.int .i64 0, .int .i64 0, .int .i64 0, .int .i64 0, .int .i64 0, .int .i64 0, .int .i64 0]] (World.laidAll_os _ _ _) (by kernel_rfl) (by kernel_rfl) (by kernel_rfl)
      (OpenSpec.preRow_of_cond 8 hx (by kernel_rfl) (fun k hk => by cases hk) (by kernel_rfl) (laid_met os))) ?_
  intro W base args ds gs before hval0 hW _ _ _ hL hsh _
  have hval : ∀ (j : Nat) t v, Tryz.f6.params[j]? = some t → args[j]? = some v → Value.okWide Tryz.prog W .any base t v := hval0
  have hW' := hW
  obtain ⟨p, q, hA, hV, rfl, hfz, hnd⟩ := hW
  obtain ⟨rfl, rfl⟩ := trodVars_none hV
  have hA0 : DataW.TrodAll enc Tryz.prog W 0 (fun _ => true) true Tryz.f6.params.toList args.toList ds p := hA
  rw [Tryz.params6] at hA0 hval
  obtain ⟨v0, vs0, d0, ds0, p0, q0, hargs, rfl, rfl, h0, r0⟩ := trodAll_cons hA0
  obtain ⟨v1, vs1, d1, ds1, p1, q1, rfl, rfl, rfl, h1, r1⟩ := trodAll_cons r0
  obtain ⟨rfl, rfl, rfl⟩ := trodAll_nil r1
  obtain rfl : args = #[v0, v1] := by cases args; simp_all
  obtain ⟨sx, ss, rfl, sr, sz⟩ := open_store (hval 0 28 v0 rfl rfl) h0
  obtain ⟨t0, rfl⟩ := open_tree (hval 1 32 v1 rfl rfl) h1
  refine (walk W sx ss t0 sr sz (maxAt_of hsh) (tenAt_of hL.tail.tail) (errAt_of hL.tail.tail.tail.tail.tail)).mono fun e W' ⟨he, bel⟩ => ?_
  subst he
  exact ⟨_, rfl, law_post (s := Rows.fnExactTreeOkSpec) rfl (by kernel_rfl) (params_ok (by kernel_rfl)) hW' rfl rfl rfl bel⟩

theorem said : Rows.FnExactTreeOkSaid :=
  OpenClaim.holds_of_cond 6 Tryz.f6 rfl rfl rfl rfl rfl rfl rfl ⟨rfl, rfl, rfl, rfl, rfl⟩ rfl rfl rfl rfl rfl (by kernel_rfl) Tryz.func6 (by kernel_rfl)
    (of_decide_eq_true (by kernel_rfl)) (by unfold Func.isWrapper; first | (rw [if_pos (by decide +kernel)]; kernel_rfl) | (rw [if_neg (by decide +kernel)]; exact ⟨rfl, rfl⟩))
    (fun os started H enc _ F => by rw [OpenClaim.pre_eq_preRow]; exact lifted os started H enc F)

theorem plain (f : FuncId) (fn : Func) (hf : Tryz.pinned.checked.prog.funcNamed "loop.example/poolfiles/laws.FnExactTreeOk" = some f) (hfn : Tryz.pinned.checked.prog.funcs[f]? = some fn) :
    true = Tryz.pinned.checked.prog.looks [] ∧ ∀ (j : Nat) t, fn.params[j]? = some t → Tryz.pinned.checked.prog.wantsStandIn t = false := by
  obtain rfl : f = 6 := Option.some.inj ((show Tryz.prog.funcNamed "loop.example/poolfiles/laws.FnExactTreeOk" = some 6 by kernel_rfl).symm.trans hf) |>.symm
  obtain rfl : fn = Tryz.f6 := (Option.some.inj (Tryz.func6.symm.trans hfn)).symm
  refine ⟨by kernel_rfl, fun j t ht => ?_⟩
  have hall : (Tryz.f6.params.toList.all fun t => !(Tryz.prog.wantsStandIn t)) = true := by kernel_rfl
  have := List.all_eq_true.1 hall t (Array.mem_toList_iff.2 (Array.mem_of_getElem? ht))
  show Tryz.prog.wantsStandIn t = false
  simpa using this

theorem proved : Rows.FnExactTreeOkCardSaid :=
  Claim7.holds_tied_plain_at .later [] _ _ _ _ said (fun _ h => by cases h) (by kernel_rfl) (fun _ h => by cases h) fnExactTreeOk_row_tie rfl ⟨rfl, rfl⟩ (by kernel_rfl) rfl plain (by kernel_rfl)

end Go.Proofs.YtafadedacbjioaaGreatDoor.lawExactTreeOk
