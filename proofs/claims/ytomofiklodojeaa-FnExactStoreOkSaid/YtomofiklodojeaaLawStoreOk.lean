/- FnExactStoreOk returns true for every store. No condition. -/
import Derived.Test.YtomofiklodojeaaStoreArg
import Derived.Test.YtomofiklodojeaaStoreOkS
import Derived.Test.YtomofiklodojeaaLaw

namespace Go.Proofs.Ytomofiklodojeaa.lawExactStoreOk
open Go.ChangeShapes Go.WideShapes Go.ChangeAt Go.RowKit
set_option maxRecDepth 100000
set_option linter.unusedVariables false
set_option linter.unusedSimpArgs false

theorem undrew {B n : Nat} {W W' : World} (h : Below B (W.drewN n) W') : Below B W W' := ⟨h.os, h.tape, h.output, h.size, h.block⟩

set_option maxHeartbeats 8000000 in
theorem walk (w : World) (x : SA) (s : St) (h : SRd w x s) (hz : ∀ r ∈ s.rows, r.size ≤ 9223372036854775807) :
    Calls Try.prog 7 #[x.v s.txg s.keep s.same] w fun e w' => e = .returned (.bool true) ∧ Below w.heap.size w w' := by
  have HX := Lib.hid h
  have SZ := Lib.hid (fun W (hB : Below w.heap.size w W) => szStore_any W x s (HX.out.below hB) hz)
  have TS := Lib.hid (fun (hb : x.nR ≤ 1048576 ∧ x.nA ≤ 1048576 ∧ x.nB ≤ 1048576 ∧ x.nG ≤ 1048576 ∧ x.nD ≤ 1048576) W (hB : Below w.heap.size w W) => toStore_any W x s (HX.out.below hB) hb.1 hb.2.1 hb.2.2.1 hb.2.2.2.1 hb.2.2.2.2)
  have SO := Lib.hid (fun W R nR cR A nA cA B nB cB G nG cG D nD cD (h : SRd W ⟨R, nR, cR, A, nA, cA, B, nB, cB, G, nG, cG, D, nD, cD⟩ s) g d => (specStoreOk_any W ⟨R, nR, cR, A, nA, cA, B, nB, cB, G, nG, cG, D, nD, cD⟩ s h g d : Calls Try.prog 32 #[.agg #[.slice R nR cR, .slice A nA cA, .slice B nB cB, .int .i64 s.txg, .slice G nG cG, .int .i64 s.keep, .slice D nD cD, .bool s.same]] W fun e w' => e = .returned (.bool (storeB s)) ∧ Below W.heap.size W w'))
  have IO := Lib.hid (fun W R nR cR A nA cA B nB cB G nG cG D nD cD (h : SRd W ⟨R, nR, cR, A, nA, cA, B, nB, cB, G, nG, cG, D, nD, cD⟩ s) g d => (storeOk_any W ⟨R, nR, cR, A, nA, cA, B, nB, cB, G, nG, cG, D, nD, cD⟩ s h g d : Calls Try.prog 34 #[.agg #[.slice R nR cR, .slice A nA cA, .slice B nB cB, .int .i64 s.txg, .slice G nG cG, .int .i64 s.keep, .slice D nD cD, .bool s.same]] W fun e w' => e = .returned (.bool (storeB s)) ∧ Below W.heap.size W w'))
  have EQ := Lib.hid (fun W R nR cR A nA cA B nB cB G nG cG D nD cD R' nR' cR' A' nA' cA' B' nB' cB' G' nG' cG' D' nD' cD' (h : SRd W ⟨R, nR, cR, A, nA, cA, B, nB, cB, G, nG, cG, D, nD, cD⟩ s) (h' : SRd W ⟨R', nR', cR', A', nA', cA', B', nB', cB', G', nG', cG', D', nD', cD'⟩ s) => (eqStore_true W ⟨R, nR, cR, A, nA, cA, B, nB, cB, G, nG, cG, D, nD, cD⟩ ⟨R', nR', cR', A', nA', cA', B', nB', cB', G', nG', cG', D', nD', cD'⟩ s h h' : Calls Try.prog 28 #[.agg #[.slice R nR cR, .slice A nA cA, .slice B nB cB, .int .i64 s.txg, .slice G nG cG, .int .i64 s.keep, .slice D nD cD, .bool s.same], .agg #[.slice R' nR' cR', .slice A' nA' cA', .slice B' nB' cB', .int .i64 s.txg, .slice G' nG' cG', .int .i64 s.keep, .slice D' nD' cD', .bool s.same]] W fun e w' => e = .returned (.bool true) ∧ Below W.heap.size W w'))
  have LG := Lib.hid HX.out.lG
  have LD := Lib.hid HX.out.lD
  generalize storeB s = rb at *
  clear h HX
  obtain ⟨R, nR, cR, A, nA, cA, B, nB, cB, G, nG, cG, D, nD, cD⟩ := x
  unfold SA.v at *
  dsimp only at *
  have HBw := Lib.hid (below_alloc (Below.refl w.heap.size w) (.cells #[.slice R nR cR, .slice A nA cA, .slice B nB cB, .int .i64 s.txg, .slice G nG cG, .int .i64 s.keep, .slice D nD cD, .bool s.same] 54))
  have BX0 := Lib.hid (box_new w #[.slice R nR cR, .slice A nA cA, .slice B nB cB, .int .i64 s.txg, .slice G nG cG, .int .i64 s.keep, .slice D nD cD, .bool s.same] 54)
  have b0 := BX0.out.cell
  have l0 := BX0.out.lt
  go_enter Try.func7, Try.ntmps7
  go_wp2_with fail
  refine Calls.mono (SZ.out _ HBw.out) ?_
  rintro e w1 ⟨z, rfl, hzz, hB⟩
  have BX1 := Lib.hid (BX0.out.below hB)
  have b1 := BX1.out.cell
  have l1 := BX1.out.lt
  have HB1 := Lib.hid (below_below HBw.out hB)
  clear hB b0 l0 BX0 HBw SZ
  by_cases hneg : z < 0
  · go_wp2_with fail
    go_ret
    exact ⟨rfl, HB1.out⟩
  have hbb := hzz (by omega)
  have T1 := Lib.hid (TS.out hbb)
  dsimp only at hbb
  have hg1 := hbb.2.2.2.1
  have hd1 := hbb.2.2.2.2
  have HGG := Lib.hid (show s.gone.length ≤ 1048576 by have := LG.out; omega)
  have HDD := Lib.hid (show s.dead.length ≤ 1048576 by have := LD.out; omega)
  clear hzz hbb TS
  -- the reference
  go_wp2_with fail
  refine Calls.mono (T1.out _ HB1.out) ?_
  rintro e w2 ⟨⟨R2, nR2, cR2, A2, nA2, cA2, B2, nB2, cB2, G2, nG2, cG2, D2, nD2, cD2⟩, he, hr, hB⟩
  unfold SA.v at he
  dsimp only at he
  subst he
  have X2 := Lib.hid hr
  have BX2 := Lib.hid (BX1.out.below hB)
  have b2 := BX2.out.cell
  have l2 := BX2.out.lt
  have HB2 := Lib.hid (below_below HB1.out hB)
  clear hB hr b1 l1 BX1
  go_wp2_with fail
  refine Calls.mono (SO.out _ R2 nR2 cR2 A2 nA2 cA2 B2 nB2 cB2 G2 nG2 cG2 D2 nD2 cD2 X2.out (by have := X2.out.lG; have := HGG.out; dsimp only at *; omega) (by have := X2.out.lD; have := HDD.out; dsimp only at *; omega)) ?_
  rintro e w3 ⟨rfl, hB⟩
  have BX3 := Lib.hid (BX2.out.below hB)
  have b3 := BX3.out.cell
  have l3 := BX3.out.lt
  have HB3 := Lib.hid (below_below HB2.out hB)
  clear hB b2 l2 BX2 X2 HB2
  -- the program's
  go_wp2_with fail
  refine Calls.mono (T1.out _ HB3.out) ?_
  rintro e w5 ⟨⟨R5, nR5, cR5, A5, nA5, cA5, B5, nB5, cB5, G5, nG5, cG5, D5, nD5, cD5⟩, he, hr, hB⟩
  unfold SA.v at he
  dsimp only at he
  subst he
  have X5 := Lib.hid (hr.below (below_alloc (Below.refl w5.heap.size w5) (.cells #[.slice R5 nR5 cR5, .slice A5 nA5 cA5, .slice B5 nB5 cB5, .int .i64 s.txg, .slice G5 nG5 cG5, .int .i64 s.keep, .slice D5 nD5 cD5, .bool s.same] 47)))
  have BX5 := Lib.hid ((BX3.out.below hB).alloc (.cells #[.slice R5 nR5 cR5, .slice A5 nA5 cA5, .slice B5 nB5 cB5, .int .i64 s.txg, .slice G5 nG5 cG5, .int .i64 s.keep, .slice D5 nD5 cD5, .bool s.same] 47))
  have BY5 := Lib.hid (box_new w5 #[.slice R5 nR5 cR5, .slice A5 nA5 cA5, .slice B5 nB5 cB5, .int .i64 s.txg, .slice G5 nG5 cG5, .int .i64 s.keep, .slice D5 nD5 cD5, .bool s.same] 47)
  have b5 := BX5.out.cell
  have l5 := BX5.out.lt
  have HB5 := Lib.hid (below_below (below_below HB3.out hB) (below_alloc (Below.refl w5.heap.size w5) (.cells #[.slice R5 nR5 cR5, .slice A5 nA5 cA5, .slice B5 nB5 cB5, .int .i64 s.txg, .slice G5 nG5 cG5, .int .i64 s.keep, .slice D5 nD5 cD5, .bool s.same] 47)))
  clear hB hr b3 l3 BX3 HB3
  go_wp2_with fail
  refine Calls.mono (IO.out _ R5 nR5 cR5 A5 nA5 cA5 B5 nB5 cB5 G5 nG5 cG5 D5 nD5 cD5 X5.out (by have := X5.out.lG; have := HGG.out; dsimp only at *; omega) (by have := X5.out.lD; have := HDD.out; dsimp only at *; omega)) ?_
  rintro e w7 ⟨rfl, hB⟩
  have X7 := Lib.hid (X5.out.below hB)
  have BX7 := Lib.hid (BX5.out.below hB)
  have BY7 := Lib.hid (BY5.out.below hB)
  have b7 := BX7.out.cell
  have l7 := BX7.out.lt
  have y7 := BY7.out.cell
  have m7 := BY7.out.lt
  have HB7 := Lib.hid (below_below HB5.out hB)
  clear hB b5 l5 BX5 BY5 X5 HB5
  have TT := Lib.hid (fun n => T1.out (w7.drewN n) (below_drewN HB7.out n))
  go_wp2_with fail
  go_region_with (first | (go_at_call 33; refine Calls.mono (TT.out _) ?_; rintro e w8 ⟨⟨R8, nR8, cR8, A8, nA8, cA8, B8, nB8, cB8, G8, nG8, cG8, D8, nD8, cD8⟩, he, hr, hB⟩; unfold SA.v at he; dsimp only at he; subst he; have hB' := undrew hB; have X8 := Lib.hid hr; have Y8 := Lib.hid (X7.out.below hB'); have BY8 := Lib.hid (BY7.out.below hB'); have y8 := BY8.out.cell; have m8 := BY8.out.lt; have HB8 := Lib.hid (below_below HB7.out hB'); clear hB hB' hr) | (go_at_call 28; refine Calls.mono (EQ.out _ R5 nR5 cR5 A5 nA5 cA5 B5 nB5 cB5 G5 nG5 cG5 D5 nD5 cD5 R8 nR8 cR8 A8 nA8 cA8 B8 nB8 cB8 G8 nG8 cG8 D8 nD8 cD8 Y8.out X8.out) ?_; rintro e w9 ⟨rfl, hB⟩; have HB9 := Lib.hid (below_below HB8.out hB); clear hB))
  all_goals
    go_wp2_with fail
    go_ret
    exact ⟨rfl, HB9.out⟩

set_option maxRecDepth 100000 in
theorem lifted (os : Os) (started : os.Started) (H : Type) (enc : TypeId × Value → H) :
    ReturnsInHanded {} Try.checked os 7 .any (Rows.fnExactStoreOkSpec.pre6 enc Try.prog Try.f7 Rows.fnExactStoreOkRow.domain false) (Rows.fnExactStoreOkSpec.post enc Try.prog Try.f7 false true false false) := by
  refine returnsInHanded_of_change (C := Try.checked) own started (by kernel_rfl) Try.func7
    (ChangeSpec.witness6 (enc := enc) (C := Try.checked) false ⟨#[], #[.agg #[.slice none 0 0, .slice none 0 0, .slice none 0 0, .int .i64 0, .slice none 0 0, .int .i64 0, .slice none 0 0, .bool false]], []⟩ 8 (by kernel_rfl) (by kernel_rfl) (by kernel_rfl) (by kernel_rfl)) ?_
  intro W base args ds gs before hval0 hW hcnd _
  have hval : ∀ (j : Nat) t v, Try.f7.params[j]? = some t → args[j]? = some v → Value.okWide Try.prog W .any base t v := hval0
  have hW' := hW
  obtain ⟨p, q, hA, hV, rfl, hfz, hnd⟩ := hW
  obtain ⟨rfl, rfl⟩ := trodVars_none hV
  have hA0 : DataW.TrodAll enc Try.prog W 0 (fun _ => true) true Try.f7.params.toList args.toList ds p := hA
  rw [Try.params7] at hA0 hval
  obtain ⟨v0, vs0, d0, ds0, p0, q0, hargs, rfl, rfl, h0, r0⟩ := trodAll_cons hA0
  obtain ⟨rfl, rfl, rfl⟩ := trodAll_nil r0
  obtain rfl : args = #[v0] := by cases args; simp_all
  obtain ⟨stx, sts, rfl, str, stz⟩ := open_store (hval 0 54 v0 rfl rfl) h0
  refine (walk W stx sts str stz).mono fun e W' ⟨he, bel⟩ => ?_
  subst he
  exact ⟨_, rfl, law_post rfl (by kernel_rfl) (params_ok (by kernel_rfl)) hW' rfl rfl rfl bel⟩

theorem proved : Rows.FnExactStoreOkSaid :=
  OpenClaim.holds_of_wide 7 Try.f7 rfl rfl rfl rfl rfl rfl rfl ⟨rfl, rfl, rfl, rfl, rfl⟩ rfl rfl rfl rfl rfl (by kernel_rfl) Try.func7 (by kernel_rfl)
    (of_decide_eq_true (by kernel_rfl)) (by unfold Func.isWrapper; first | (rw [if_pos (by decide +kernel)]; kernel_rfl) | (rw [if_neg (by decide +kernel)]; exact ⟨rfl, rfl⟩))
    (fun os started H enc _ => lifted os started H enc)

end Go.Proofs.Ytomofiklodojeaa.lawExactStoreOk
