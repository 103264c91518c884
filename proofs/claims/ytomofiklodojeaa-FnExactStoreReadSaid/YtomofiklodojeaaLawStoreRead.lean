/- FnExactStoreRead returns true for every store and every pointer. No condition. -/
import Derived.Test.YtomofiklodojeaaStoreArg
import Derived.Test.YtomofiklodojeaaStoreRead
import Derived.Test.YtomofiklodojeaaLaw
import Derived.Deep.CutRange
namespace Go.Proofs.Ytomofiklodojeaa.lawExactStoreRead
open Go.ChangeShapes Go.WideShapes Go.ChangeAt Go.RowKit
set_option maxRecDepth 100000
set_option linter.unusedVariables false
set_option linter.unusedSimpArgs false

theorem undrew {B n : Nat} {W W' : World} (h : Below B (W.drewN n) W') : Below B W W' := ⟨h.os, h.tape, h.output, h.size, h.block⟩

set_option maxHeartbeats 8000000 in
theorem walk (w : World) (x : SA) (s : St) (p : Pt) (h : SRd w x s) (hz : ∀ r ∈ s.rows, r.size ≤ 9223372036854775807) :
    Calls Try.prog 8 #[x.v s.txg s.keep s.same, p.v] w fun e w' => e = .returned (.bool true) ∧ Below w.heap.size w w' := by
  have HX := Lib.hid h
  have SZ := Lib.hid (fun W (hB : Below w.heap.size w W) => szStore_any W x s (HX.out.below hB) hz)
  have TS := Lib.hid (fun (hb : x.nR ≤ 1048576 ∧ x.nA ≤ 1048576 ∧ x.nB ≤ 1048576 ∧ x.nG ≤ 1048576 ∧ x.nD ≤ 1048576) W (hB : Below w.heap.size w W) => toStore_any W x s (HX.out.below hB) hb.1 hb.2.1 hb.2.2.1 hb.2.2.2.1 hb.2.2.2.2)
  have TP := Lib.hid (toPt_any p)
  have SO := Lib.hid (fun W R nR cR A nA cA B nB cB G nG cG D nD cD (h : SRd W ⟨R, nR, cR, A, nA, cA, B, nB, cB, G, nG, cG, D, nD, cD⟩ s) g d => (specStoreRead_any W ⟨R, nR, cR, A, nA, cA, B, nB, cB, G, nG, cG, D, nD, cD⟩ s p h g d hz : Calls Try.prog 35 #[.agg #[.slice R nR cR, .slice A nA cA, .slice B nB cB, .int .i64 s.txg, .slice G nG cG, .int .i64 s.keep, .slice D nD cD, .bool s.same], p.v] W fun e w' => e = .returned (.tuple #[.string (srT s p), .bool (srB s p)]) ∧ Below W.heap.size W w'))
  have IO := Lib.hid (fun W R nR cR A nA cA B nB cB G nG cG D nD cD (h : SRd W ⟨R, nR, cR, A, nA, cA, B, nB, cB, G, nG, cG, D, nD, cD⟩ s) g d => (storeRead_any W ⟨R, nR, cR, A, nA, cA, B, nB, cB, G, nG, cG, D, nD, cD⟩ s p h g d hz : Calls Try.prog 37 #[.agg #[.slice R nR cR, .slice A nA cA, .slice B nB cB, .int .i64 s.txg, .slice G nG cG, .int .i64 s.keep, .slice D nD cD, .bool s.same], p.v] W fun e w' => e = .returned (.tuple #[.string (srT s p), .bool (srB s p)]) ∧ Below W.heap.size W w'))
  have EQ := Lib.hid (fun W R nR cR A nA cA B nB cB G nG cG D nD cD R' nR' cR' A' nA' cA' B' nB' cB' G' nG' cG' D' nD' cD' (h : SRd W ⟨R, nR, cR, A, nA, cA, B, nB, cB, G, nG, cG, D, nD, cD⟩ s) (h' : SRd W ⟨R', nR', cR', A', nA', cA', B', nB', cB', G', nG', cG', D', nD', cD'⟩ s) => (eqStore_true W ⟨R, nR, cR, A, nA, cA, B, nB, cB, G, nG, cG, D, nD, cD⟩ ⟨R', nR', cR', A', nA', cA', B', nB', cB', G', nG', cG', D', nD', cD'⟩ s h h' : Calls Try.prog 28 #[.agg #[.slice R nR cR, .slice A nA cA, .slice B nB cB, .int .i64 s.txg, .slice G nG cG, .int .i64 s.keep, .slice D nD cD, .bool s.same], .agg #[.slice R' nR' cR', .slice A' nA' cA', .slice B' nB' cB', .int .i64 s.txg, .slice G' nG' cG', .int .i64 s.keep, .slice D' nD' cD', .bool s.same]] W fun e w' => e = .returned (.bool true) ∧ Below W.heap.size W w'))
  have LG := Lib.hid HX.out.lG
  have LD := Lib.hid HX.out.lD
  generalize srT s p = rt at *
  generalize srB s p = rb at *
  clear h HX
  obtain ⟨R, nR, cR, A, nA, cA, B, nB, cB, G, nG, cG, D, nD, cD⟩ := x
  obtain ⟨pa, pb, ps, pu, pl⟩ := p
  unfold SA.v Pt.v at *
  dsimp only at *
  have HBw := Lib.hid (below_alloc (below_alloc (Below.refl w.heap.size w) (.cells #[.slice R nR cR, .slice A nA cA, .slice B nB cB, .int .i64 s.txg, .slice G nG cG, .int .i64 s.keep, .slice D nD cD, .bool s.same] 54)) (.cells #[.int .i64 pa, .int .i64 pb, .int .i64 ps, .int .i64 pu, .int .i64 pl] 59))
  have BX0 := Lib.hid ((box_new w #[.slice R nR cR, .slice A nA cA, .slice B nB cB, .int .i64 s.txg, .slice G nG cG, .int .i64 s.keep, .slice D nD cD, .bool s.same] 54).alloc (.cells #[.int .i64 pa, .int .i64 pb, .int .i64 ps, .int .i64 pu, .int .i64 pl] 59))
  have BP0 := box_new (w.alloc (.cells #[.slice R nR cR, .slice A nA cA, .slice B nB cB, .int .i64 s.txg, .slice G nG cG, .int .i64 s.keep, .slice D nD cD, .bool s.same] 54)) #[.int .i64 pa, .int .i64 pb, .int .i64 ps, .int .i64 pu, .int .i64 pl] 59
  rw [World.size_alloc] at BP0
  replace BP0 := Lib.hid BP0
  go_enter Try.func8, Try.ntmps8
  go_wp2_with fail
  refine Calls.mono (SZ.out _ HBw.out) ?_
  rintro e w1 ⟨z, rfl, hzz, hB⟩
  have BXc : Hid (BoxAt w1 w.heap.size #[.slice R nR cR, .slice A nA cA, .slice B nB cB, .int .i64 s.txg, .slice G nG cG, .int .i64 s.keep, .slice D nD cD, .bool s.same] 54) := Lib.hid (BX0.out.below hB)
  have BPc : Hid (BoxAt w1 (w.heap.size + 1) #[.int .i64 pa, .int .i64 pb, .int .i64 ps, .int .i64 pu, .int .i64 pl] 59) := Lib.hid (BP0.out.below hB)
  have bc := BXc.out.cell
  have bcl := BXc.out.lt
  have pc := BPc.out.cell
  have pcl := BPc.out.lt
  have HBc : Hid (Below w.heap.size w w1) := Lib.hid (below_below HBw.out hB)
  clear hB BX0 BP0 HBw SZ
  by_cases hneg : z < 0
  · go_wp2_with fail
    go_ret
    exact ⟨rfl, HBc.out⟩
  have hbb := hzz (by omega)
  have T1 := Lib.hid (TS.out hbb)
  dsimp only at hbb
  have hg1 := hbb.2.2.2.1
  have hd1 := hbb.2.2.2.2
  have HGG := Lib.hid (show s.gone.length ≤ 1048576 by have := LG.out; omega)
  have HDD := Lib.hid (show s.dead.length ≤ 1048576 by have := LD.out; omega)
  clear hzz hbb TS
  go_upto_region 5 with fail
  go_cut [6, 7] from 16 to 24 (fun a b wx => a = .string rt ∧ b = .bool rb ∧ Hid (Below w.heap.size w wx) ∧ Hid (BoxAt wx w.heap.size #[.slice R nR cR, .slice A nA cA, .slice B nB cB, .int .i64 s.txg, .slice G nG cG, .int .i64 s.keep, .slice D nD cD, .bool s.same] 54) ∧ Hid (BoxAt wx (w.heap.size + 1) #[.int .i64 pa, .int .i64 pb, .int .i64 ps, .int .i64 pu, .int .i64 pl] 59))
  case first =>
    go_region_with (first | (go_at_call 33; refine Calls.mono (T1.out _ (by first | exact below_drewN HBc.out _ | exact HBc.out)) ?_; rintro e w8 ⟨⟨R8, nR8, cR8, A8, nA8, cA8, B8, nB8, cB8, G8, nG8, cG8, D8, nD8, cD8⟩, he, hr, hB⟩; unfold SA.v at he; dsimp only at he; subst he; have Xc := Lib.hid hr; clear hr; have HBd : Hid (Below w.heap.size w w8) := Lib.hid (by first | exact below_below HBc.out (undrew hB) | exact below_below HBc.out hB); have BXd : Hid (BoxAt w8 w.heap.size #[.slice R nR cR, .slice A nA cA, .slice B nB cB, .int .i64 s.txg, .slice G nG cG, .int .i64 s.keep, .slice D nD cD, .bool s.same] 54) := Lib.hid (by first | exact BXc.out.below (undrew hB) | exact BXc.out.below hB); have BPd : Hid (BoxAt w8 (w.heap.size + 1) #[.int .i64 pa, .int .i64 pb, .int .i64 ps, .int .i64 pu, .int .i64 pl] 59) := Lib.hid (by first | exact BPc.out.below (undrew hB) | exact BPc.out.below hB); clear HBc BXc BPc; have HBc := HBd; have BXc := BXd; have BPc := BPd; clear HBd BXd BPd hB; have bc := BXc.out.cell; have bcl := BXc.out.lt; have pc := BPc.out.cell; have pcl := BPc.out.lt) | (go_at_call 36; refine Calls.mono (TP.out _) ?_; rintro e w8 ⟨rfl, hB⟩; have HBd : Hid (Below w.heap.size w w8) := Lib.hid (by first | exact below_below HBc.out (undrew hB) | exact below_below HBc.out hB); have BXd : Hid (BoxAt w8 w.heap.size #[.slice R nR cR, .slice A nA cA, .slice B nB cB, .int .i64 s.txg, .slice G nG cG, .int .i64 s.keep, .slice D nD cD, .bool s.same] 54) := Lib.hid (by first | exact BXc.out.below (undrew hB) | exact BXc.out.below hB); have BPd : Hid (BoxAt w8 (w.heap.size + 1) #[.int .i64 pa, .int .i64 pb, .int .i64 ps, .int .i64 pu, .int .i64 pl] 59) := Lib.hid (by first | exact BPc.out.below (undrew hB) | exact BPc.out.below hB); (try have Xd : Hid (SRd w8 ⟨R8, nR8, cR8, A8, nA8, cA8, B8, nB8, cB8, G8, nG8, cG8, D8, nD8, cD8⟩ s) := Lib.hid (by first | exact Xc.out.below (undrew hB) | exact Xc.out.below hB)); clear HBc BXc BPc; (try clear Xc); (try have Xc := Xd); (try clear Xd); have HBc := HBd; have BXc := BXd; have BPc := BPd; clear HBd BXd BPd hB; have bc := BXc.out.cell; have bcl := BXc.out.lt; have pc := BPc.out.cell; have pcl := BPc.out.lt) | (go_at_call 35; refine Calls.mono (SO.out _ R8 nR8 cR8 A8 nA8 cA8 B8 nB8 cB8 G8 nG8 cG8 D8 nD8 cD8 Xc.out (by have := Xc.out.lG; have := HGG.out; dsimp only at *; omega) (by have := Xc.out.lD; have := HDD.out; dsimp only at *; omega)) ?_; rintro e w8 ⟨rfl, hB⟩; have HBd : Hid (Below w.heap.size w w8) := Lib.hid (by first | exact below_below HBc.out (undrew hB) | exact below_below HBc.out hB); have BXd : Hid (BoxAt w8 w.heap.size #[.slice R nR cR, .slice A nA cA, .slice B nB cB, .int .i64 s.txg, .slice G nG cG, .int .i64 s.keep, .slice D nD cD, .bool s.same] 54) := Lib.hid (by first | exact BXc.out.below (undrew hB) | exact BXc.out.below hB); have BPd : Hid (BoxAt w8 (w.heap.size + 1) #[.int .i64 pa, .int .i64 pb, .int .i64 ps, .int .i64 pu, .int .i64 pl] 59) := Lib.hid (by first | exact BPc.out.below (undrew hB) | exact BPc.out.below hB); clear HBc BXc BPc; have HBc := HBd; have BXc := BXd; have BPc := BPd; clear HBd BXd BPd hB; have bc := BXc.out.cell; have bcl := BXc.out.lt; have pc := BPc.out.cell; have pcl := BPc.out.lt))
    all_goals
      go_wp2_with fail
      go_meet
      case rel => exact ⟨rfl, rfl, HBc, BXc, BPc⟩
  case rest =>
    clear bc bcl pc pcl HBc BXc BPc
    obtain ⟨rfl, rfl, HBc, BXc, BPc⟩ := hcut
    have bc := BXc.out.cell
    have bcl := BXc.out.lt
    have pc := BPc.out.cell
    have pcl := BPc.out.lt
    go_wp2_with fail
    refine Calls.mono (T1.out _ HBc.out) ?_
    rintro e w5 ⟨⟨R5, nR5, cR5, A5, nA5, cA5, B5, nB5, cB5, G5, nG5, cG5, D5, nD5, cD5⟩, he, hr, hB⟩
    unfold SA.v at he
    dsimp only at he
    subst he
    have X5c := Lib.hid (hr.below (below_alloc (Below.refl w5.heap.size w5) (.cells #[.slice R5 nR5 cR5, .slice A5 nA5 cA5, .slice B5 nB5 cB5, .int .i64 s.txg, .slice G5 nG5 cG5, .int .i64 s.keep, .slice D5 nD5 cD5, .bool s.same] 47)))
    have BYc := Lib.hid (box_new w5 #[.slice R5 nR5 cR5, .slice A5 nA5 cA5, .slice B5 nB5 cB5, .int .i64 s.txg, .slice G5 nG5 cG5, .int .i64 s.keep, .slice D5 nD5 cD5, .bool s.same] 47)
    have BXd := Lib.hid ((BXc.out.below hB).alloc (.cells #[.slice R5 nR5 cR5, .slice A5 nA5 cA5, .slice B5 nB5 cB5, .int .i64 s.txg, .slice G5 nG5 cG5, .int .i64 s.keep, .slice D5 nD5 cD5, .bool s.same] 47))
    have BPd := Lib.hid ((BPc.out.below hB).alloc (.cells #[.slice R5 nR5 cR5, .slice A5 nA5 cA5, .slice B5 nB5 cB5, .int .i64 s.txg, .slice G5 nG5 cG5, .int .i64 s.keep, .slice D5 nD5 cD5, .bool s.same] 47))
    have HBd := Lib.hid (below_below (below_below HBc.out hB) (below_alloc (Below.refl w5.heap.size w5) (.cells #[.slice R5 nR5 cR5, .slice A5 nA5 cA5, .slice B5 nB5 cB5, .int .i64 s.txg, .slice G5 nG5 cG5, .int .i64 s.keep, .slice D5 nD5 cD5, .bool s.same] 47)))
    clear hB hr bc bcl pc pcl HBc BXc BPc
    have HBc := HBd
    have BXc := BXd
    have BPc := BPd
    clear HBd BXd BPd
    have bc := BXc.out.cell
    have bcl := BXc.out.lt
    have pc := BPc.out.cell
    have pcl := BPc.out.lt
    have yc := BYc.out.cell
    have ycl := BYc.out.lt
    go_upto_region 7 with fail
    go_cut [9, 10] from 26 to 33 (fun a b wx => a = .string rt ∧ b = .bool rb ∧ Hid (Below w.heap.size w wx) ∧ Hid (BoxAt wx w.heap.size #[.slice R nR cR, .slice A nA cA, .slice B nB cB, .int .i64 s.txg, .slice G nG cG, .int .i64 s.keep, .slice D nD cD, .bool s.same] 54) ∧ Hid (BoxAt wx (w.heap.size + 1) #[.int .i64 pa, .int .i64 pb, .int .i64 ps, .int .i64 pu, .int .i64 pl] 59) ∧ Hid (BoxAt wx w5.heap.size #[.slice R5 nR5 cR5, .slice A5 nA5 cA5, .slice B5 nB5 cB5, .int .i64 s.txg, .slice G5 nG5 cG5, .int .i64 s.keep, .slice D5 nD5 cD5, .bool s.same] 47) ∧ Hid (SRd wx ⟨R5, nR5, cR5, A5, nA5, cA5, B5, nB5, cB5, G5, nG5, cG5, D5, nD5, cD5⟩ s))
    case first =>
      go_region_with (first | (go_at_call 36; refine Calls.mono (TP.out _) ?_; rintro e w8 ⟨rfl, hB⟩; have HBd : Hid (Below w.heap.size w w8) := Lib.hid (by first | exact below_below HBc.out (undrew hB) | exact below_below HBc.out hB); have BXd : Hid (BoxAt w8 w.heap.size #[.slice R nR cR, .slice A nA cA, .slice B nB cB, .int .i64 s.txg, .slice G nG cG, .int .i64 s.keep, .slice D nD cD, .bool s.same] 54) := Lib.hid (by first | exact BXc.out.below (undrew hB) | exact BXc.out.below hB); have BPd : Hid (BoxAt w8 (w.heap.size + 1) #[.int .i64 pa, .int .i64 pb, .int .i64 ps, .int .i64 pu, .int .i64 pl] 59) := Lib.hid (by first | exact BPc.out.below (undrew hB) | exact BPc.out.below hB); have BYd : Hid (BoxAt w8 w5.heap.size #[.slice R5 nR5 cR5, .slice A5 nA5 cA5, .slice B5 nB5 cB5, .int .i64 s.txg, .slice G5 nG5 cG5, .int .i64 s.keep, .slice D5 nD5 cD5, .bool s.same] 47) := Lib.hid (by first | exact BYc.out.below (undrew hB) | exact BYc.out.below hB); have X5d : Hid (SRd w8 ⟨R5, nR5, cR5, A5, nA5, cA5, B5, nB5, cB5, G5, nG5, cG5, D5, nD5, cD5⟩ s) := Lib.hid (by first | exact X5c.out.below (undrew hB) | exact X5c.out.below hB); clear HBc BXc BPc BYc X5c; have HBc := HBd; have BXc := BXd; have BPc := BPd; have BYc := BYd; have X5c := X5d; clear HBd BXd BPd BYd X5d hB; have bc := BXc.out.cell; have bcl := BXc.out.lt; have pc := BPc.out.cell; have pcl := BPc.out.lt; have yc := BYc.out.cell; have ycl := BYc.out.lt) | (go_at_call 37; refine Calls.mono (IO.out _ R5 nR5 cR5 A5 nA5 cA5 B5 nB5 cB5 G5 nG5 cG5 D5 nD5 cD5 X5c.out (by have := X5c.out.lG; have := HGG.out; dsimp only at *; omega) (by have := X5c.out.lD; have := HDD.out; dsimp only at *; omega)) ?_; rintro e w8 ⟨rfl, hB⟩; have HBd : Hid (Below w.heap.size w w8) := Lib.hid (by first | exact below_below HBc.out (undrew hB) | exact below_below HBc.out hB); have BXd : Hid (BoxAt w8 w.heap.size #[.slice R nR cR, .slice A nA cA, .slice B nB cB, .int .i64 s.txg, .slice G nG cG, .int .i64 s.keep, .slice D nD cD, .bool s.same] 54) := Lib.hid (by first | exact BXc.out.below (undrew hB) | exact BXc.out.below hB); have BPd : Hid (BoxAt w8 (w.heap.size + 1) #[.int .i64 pa, .int .i64 pb, .int .i64 ps, .int .i64 pu, .int .i64 pl] 59) := Lib.hid (by first | exact BPc.out.below (undrew hB) | exact BPc.out.below hB); have BYd : Hid (BoxAt w8 w5.heap.size #[.slice R5 nR5 cR5, .slice A5 nA5 cA5, .slice B5 nB5 cB5, .int .i64 s.txg, .slice G5 nG5 cG5, .int .i64 s.keep, .slice D5 nD5 cD5, .bool s.same] 47) := Lib.hid (by first | exact BYc.out.below (undrew hB) | exact BYc.out.below hB); have X5d : Hid (SRd w8 ⟨R5, nR5, cR5, A5, nA5, cA5, B5, nB5, cB5, G5, nG5, cG5, D5, nD5, cD5⟩ s) := Lib.hid (by first | exact X5c.out.below (undrew hB) | exact X5c.out.below hB); clear HBc BXc BPc BYc X5c; have HBc := HBd; have BXc := BXd; have BPc := BPd; have BYc := BYd; have X5c := X5d; clear HBd BXd BPd BYd X5d hB; have bc := BXc.out.cell; have bcl := BXc.out.lt; have pc := BPc.out.cell; have pcl := BPc.out.lt; have yc := BYc.out.cell; have ycl := BYc.out.lt))
      all_goals
        go_wp2_with fail
        go_meet
        case rel => exact ⟨rfl, rfl, HBc, BXc, BPc, BYc, X5c⟩
    case rest =>
      clear bc bcl pc pcl yc ycl HBc BXc BPc BYc X5c
      obtain ⟨rfl, rfl, HBc, BXc, BPc, BYc, X5c⟩ := hcut
      have bc := BXc.out.cell
      have bcl := BXc.out.lt
      have yc := BYc.out.cell
      have ycl := BYc.out.lt
      go_wp2_with fail
      go_region_with (first | (go_at_call 33; refine Calls.mono (T1.out _ (by first | exact below_drewN HBc.out _ | exact HBc.out)) ?_; rintro e w8 ⟨⟨R8, nR8, cR8, A8, nA8, cA8, B8, nB8, cB8, G8, nG8, cG8, D8, nD8, cD8⟩, he, hr, hB⟩; unfold SA.v at he; dsimp only at he; subst he; have Xc := Lib.hid hr; clear hr; have HBd : Hid (Below w.heap.size w w8) := Lib.hid (by first | exact below_below HBc.out (undrew hB) | exact below_below HBc.out hB); have BXd : Hid (BoxAt w8 w.heap.size #[.slice R nR cR, .slice A nA cA, .slice B nB cB, .int .i64 s.txg, .slice G nG cG, .int .i64 s.keep, .slice D nD cD, .bool s.same] 54) := Lib.hid (by first | exact BXc.out.below (undrew hB) | exact BXc.out.below hB); have BPd : Hid (BoxAt w8 (w.heap.size + 1) #[.int .i64 pa, .int .i64 pb, .int .i64 ps, .int .i64 pu, .int .i64 pl] 59) := Lib.hid (by first | exact BPc.out.below (undrew hB) | exact BPc.out.below hB); have BYd : Hid (BoxAt w8 w5.heap.size #[.slice R5 nR5 cR5, .slice A5 nA5 cA5, .slice B5 nB5 cB5, .int .i64 s.txg, .slice G5 nG5 cG5, .int .i64 s.keep, .slice D5 nD5 cD5, .bool s.same] 47) := Lib.hid (by first | exact BYc.out.below (undrew hB) | exact BYc.out.below hB); have X5d : Hid (SRd w8 ⟨R5, nR5, cR5, A5, nA5, cA5, B5, nB5, cB5, G5, nG5, cG5, D5, nD5, cD5⟩ s) := Lib.hid (by first | exact X5c.out.below (undrew hB) | exact X5c.out.below hB); clear HBc BXc BPc BYc X5c; have HBc := HBd; have BXc := BXd; have BPc := BPd; have BYc := BYd; have X5c := X5d; clear HBd BXd BPd BYd X5d hB; have bc := BXc.out.cell; have bcl := BXc.out.lt; have pc := BPc.out.cell; have pcl := BPc.out.lt; have yc := BYc.out.cell; have ycl := BYc.out.lt) | (go_at_call 28; refine Calls.mono (EQ.out _ R5 nR5 cR5 A5 nA5 cA5 B5 nB5 cB5 G5 nG5 cG5 D5 nD5 cD5 R8 nR8 cR8 A8 nA8 cA8 B8 nB8 cB8 G8 nG8 cG8 D8 nD8 cD8 X5c.out Xc.out) ?_; rintro e w9 ⟨rfl, hB⟩; have HB9 : Hid (Below w.heap.size w w9) := Lib.hid (by first | exact below_below HBc.out (undrew hB) | exact below_below HBc.out hB); clear hB))
      all_goals
        go_wp2_with fail
        go_ret
        exact ⟨rfl, HB9.out⟩

set_option maxRecDepth 100000 in
theorem lifted (os : Os) (started : os.Started) (H : Type) (enc : TypeId × Value → H) :
    ReturnsInHanded {} Try.checked os 8 .any (Rows.fnExactStoreReadSpec.pre6 enc Try.prog Try.f8 Rows.fnExactStoreReadRow.domain false) (Rows.fnExactStoreReadSpec.post enc Try.prog Try.f8 false true false false) := by
  refine returnsInHanded_of_change (C := Try.checked) own started (by kernel_rfl) Try.func8
    (ChangeSpec.witness6 (enc := enc) (C := Try.checked) false ⟨#[], #[.agg #[.slice none 0 0, .slice none 0 0, .slice none 0 0, .int .i64 0, .slice none 0 0, .int .i64 0, .slice none 0 0, .bool false], .agg #[.int .i64 0, .int .i64 0, .int .i64 0, .int .i64 0, .int .i64 0]], []⟩ 8 (by kernel_rfl) (by kernel_rfl) (by kernel_rfl) (by kernel_rfl)) ?_
  intro W base args ds gs before hval0 hW hcnd _
  have hval : ∀ (j : Nat) t v, Try.f8.params[j]? = some t → args[j]? = some v → Value.okWide Try.prog W .any base t v := hval0
  have hW' := hW
  obtain ⟨p, q, hA, hV, rfl, hfz, hnd⟩ := hW
  obtain ⟨rfl, rfl⟩ := trodVars_none hV
  have hA0 : DataW.TrodAll enc Try.prog W 0 (fun _ => true) true Try.f8.params.toList args.toList ds p := hA
  rw [Try.params8] at hA0 hval
  obtain ⟨v0, vs0, d0, ds0, p0, q0, hargs, rfl, rfl, h0, r0⟩ := trodAll_cons hA0
  obtain ⟨v1, vs1, d1, ds1, p1, q1, rfl, rfl, rfl, h1, r1⟩ := trodAll_cons r0
  obtain ⟨rfl, rfl, rfl⟩ := trodAll_nil r1
  obtain rfl : args = #[v0, v1] := by cases args; simp_all
  obtain ⟨stx, sts, rfl, str, stz⟩ := open_store (hval 0 54 v0 rfl rfl) h0
  obtain ⟨p, rfl⟩ := open_ptr (hval 1 59 v1 rfl rfl) h1
  refine (walk W stx sts p str stz).mono fun e W' ⟨he, bel⟩ => ?_
  subst he
  exact ⟨_, rfl, law_post rfl (by kernel_rfl) (params_ok (by kernel_rfl)) hW' rfl rfl rfl bel⟩

theorem proved : Rows.FnExactStoreReadSaid :=
  OpenClaim.holds_of_wide 8 Try.f8 rfl rfl rfl rfl rfl rfl rfl ⟨rfl, rfl, rfl, rfl, rfl⟩ rfl rfl rfl rfl rfl (by kernel_rfl) Try.func8 (by kernel_rfl)
    (of_decide_eq_true (by kernel_rfl)) (by unfold Func.isWrapper; first | (rw [if_pos (by decide +kernel)]; kernel_rfl) | (rw [if_neg (by decide +kernel)]; exact ⟨rfl, rfl⟩))
    (fun os started H enc _ => lifted os started H enc)

end Go.Proofs.Ytomofiklodojeaa.lawExactStoreRead
