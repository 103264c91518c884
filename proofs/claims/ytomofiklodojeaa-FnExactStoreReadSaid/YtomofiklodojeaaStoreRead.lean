/- StoreRead: both texts; a pointer that came in. -/
import Derived.Test.YtomofiklodojeaaStoreOkS
import Derived.Test.YtomofiklodojeaaRead
namespace Go.Proofs.Ytomofiklodojeaa
open Go.RowKit Go.Sort
set_option maxRecDepth 100000
set_option linter.unusedVariables false
set_option linter.unusedSimpArgs false

def srT (s : St) (p : Pt) : ByteArray := if (storeB s && ptrB p) = true then readT s.rows p else ⟨#[]⟩
def srB (s : St) (p : Pt) : Bool := storeB s && (ptrB p && readB s.rows p)
theorem store_rows {s : St} (h : storeB s = true) : s.rows.length = 64 := by
  simp only [storeB, headB, Bool.and_eq_true, decide_eq_true_eq] at h
  exact h.1.1
theorem sr_no1 {s : St} {p : Pt} (h : storeB s = false) : srT s p = ⟨#[]⟩ ∧ srB s p = false := by simp [srT, srB, h]
theorem sr_no2 {s : St} {p : Pt} (h : ptrB p = false) : srT s p = ⟨#[]⟩ ∧ srB s p = false := by simp [srT, srB, h]
theorem sr_yes {s : St} {p : Pt} (h : storeB s = true) (h2 : ptrB p = true) : srT s p = readT s.rows p ∧ srB s p = readB s.rows p := by simp [srT, srB, h, h2]

set_option maxHeartbeats 4000000 in
theorem storeRead_any (w : World) (x : SA) (s : St) (p : Pt) (h : SRd w x s) (mG : x.nG ≤ 1048576) (mD : x.nD ≤ 1048576) (hz : ∀ r ∈ s.rows, r.size ≤ 9223372036854775807) :
    Calls Try.prog 37 #[x.v s.txg s.keep s.same, p.v] w fun e w' => e = .returned (.tuple #[.string (srT s p), .bool (srB s p)]) ∧ Below w.heap.size w w' := by
  have HX := Lib.hid h
  have IO := Lib.hid (fun W (hB : Below w.heap.size w W) => storeOk_any W x s (HX.out.below hB) mG mD)
  have HP := Lib.hid (ptrOk_any p)
  have HRD := Lib.hid (fun W sb v1 v2 v3 v4 v5 v6 v7 (hS : BoxAt W sb #[.slice x.R x.nR x.cR, v1, v2, v3, v4, v5, v6, v7] 47) (hB : Below w.heap.size w W) h64 hp => read_any W sb x.R x.nR x.cR v1 v2 v3 v4 v5 v6 v7 s.rows p hS (HX.out.rows.below hB) HX.out.lR h64 hz hp)
  have hnR := h.lR
  have HPV := Lib.hid (show p.v = .agg #[.int .i64 p.at_, .int .i64 p.birth, .int .i64 p.size, .int .i64 p.sum, .int .i64 p.level] from rfl)
  rw [HPV.out] at HP HRD
  rw [HPV.out]
  clear h HX
  obtain ⟨R, nR, cR, A, nA, cA, B, nB, cB, G, nG, cG, D, nD, cD⟩ := x
  unfold SA.v at *
  dsimp only at *
  have HBw := Lib.hid (below_alloc (below_alloc (Below.refl w.heap.size w) (.cells #[.slice R nR cR, .slice A nA cA, .slice B nB cB, .int .i64 s.txg, .slice G nG cG, .int .i64 s.keep, .slice D nD cD, .bool s.same] 47)) (.cells #[.int .i64 p.at_, .int .i64 p.birth, .int .i64 p.size, .int .i64 p.sum, .int .i64 p.level] 41))
  have BS := Lib.hid ((box_new w #[.slice R nR cR, .slice A nA cA, .slice B nB cB, .int .i64 s.txg, .slice G nG cG, .int .i64 s.keep, .slice D nD cD, .bool s.same] 47).alloc (.cells #[.int .i64 p.at_, .int .i64 p.birth, .int .i64 p.size, .int .i64 p.sum, .int .i64 p.level] 41))
  have BP := box_new (w.alloc (.cells #[.slice R nR cR, .slice A nA cA, .slice B nB cB, .int .i64 s.txg, .slice G nG cG, .int .i64 s.keep, .slice D nD cD, .bool s.same] 47)) #[.int .i64 p.at_, .int .i64 p.birth, .int .i64 p.size, .int .i64 p.sum, .int .i64 p.level] 41
  rw [World.size_alloc] at BP
  replace BP := Lib.hid BP
  cases hs : storeB s
  · rw [hs] at IO
    obtain ⟨E1, E2⟩ := sr_no1 (p := p) hs
    rw [E1, E2]
    clear hs E1 E2
    go_enter Try.func37, Try.ntmps37
    go_wp2_with fail
    refine Calls.mono (IO.out _ HBw.out) ?_
    rintro e w2 ⟨rfl, hB⟩
    have HB2 := Lib.hid (below_below HBw.out hB)
    clear hB
    go_wp2_with fail
    go_ret2
    exact ⟨rfl, HB2.out⟩
  · rw [hs] at IO
    have e64 : nR = 64 := by have := store_rows hs; omega
    subst e64
    clear hnR
    cases hp : ptrB p
    · rw [hp] at HP
      obtain ⟨E1, E2⟩ := sr_no2 (s := s) hp
      rw [E1, E2]
      clear hs hp E1 E2
      go_enter Try.func37, Try.ntmps37
      go_wp2_with fail
      refine Calls.mono (IO.out _ HBw.out) ?_
      rintro e w2 ⟨rfl, hB⟩
      have HB2 := Lib.hid (below_below HBw.out hB)
      have BP2 := Lib.hid (BP.out.below hB)
      have p2 := BP2.out.cell
      have pl2 := BP2.out.lt
      clear hB
      go_wp2_with fail
      refine Calls.mono (HP.out _) ?_
      rintro e w3 ⟨rfl, hB⟩
      have HB3 := Lib.hid (below_below HB2.out hB)
      clear hB p2
      go_wp2_with fail
      go_ret2
      exact ⟨rfl, HB3.out⟩
    · rw [hp] at HP
      obtain ⟨E1, E2⟩ := sr_yes hs hp
      rw [E1, E2]
      have HQ := Lib.hid (fun W sb v1 v2 v3 v4 v5 v6 v7 (hS : BoxAt W sb #[.slice R 64 cR, v1, v2, v3, v4, v5, v6, v7] 47) (hB : Below w.heap.size w W) => HRD.out W sb v1 v2 v3 v4 v5 v6 v7 hS hB rfl hp)
      clear hs hp E1 E2 HRD
      go_enter Try.func37, Try.ntmps37
      go_wp2_with fail
      refine Calls.mono (IO.out _ HBw.out) ?_
      rintro e w2 ⟨rfl, hB⟩
      have HB2 := Lib.hid (below_below HBw.out hB)
      have BP2 := Lib.hid (BP.out.below hB)
      have BS2 := Lib.hid (BS.out.below hB)
      have p2 := BP2.out.cell
      have pl2 := BP2.out.lt
      clear hB
      go_wp2_with fail
      refine Calls.mono (HP.out _) ?_
      rintro e w3 ⟨rfl, hB⟩
      have HB3 := Lib.hid (below_below HB2.out hB)
      have BP3 := Lib.hid (BP2.out.below hB)
      have BS3 := Lib.hid (BS2.out.below hB)
      have p3 := BP3.out.cell
      have pl3 := BP3.out.lt
      clear hB p2
      go_wp2_with fail
      refine Calls.mono (HQ.out _ _ _ _ _ _ _ _ _ BS3.out HB3.out) ?_
      rintro e w4 ⟨rfl, hB⟩
      have HB4 := Lib.hid (below_below HB3.out hB)
      clear hB p3
      go_wp2_with fail
      go_ret2
      exact ⟨rfl, HB4.out⟩

set_option maxHeartbeats 4000000 in
theorem specStoreRead_any (w : World) (x : SA) (s : St) (p : Pt) (h : SRd w x s) (mG : x.nG ≤ 1048576) (mD : x.nD ≤ 1048576) (hz : ∀ r ∈ s.rows, r.size ≤ 9223372036854775807) :
    Calls Try.prog 35 #[x.v s.txg s.keep s.same, p.v] w fun e w' => e = .returned (.tuple #[.string (srT s p), .bool (srB s p)]) ∧ Below w.heap.size w w' := by
  have HX := Lib.hid h
  have IO := Lib.hid (fun W (hB : Below w.heap.size w W) => specStoreOk_any W x s (HX.out.below hB) mG mD)
  have HP := Lib.hid (specPtrOk_any p)
  have HRD := Lib.hid (fun W (hB : Below w.heap.size w W) h64 hp => l7Read_any W x.R x.nR x.cR x.A x.B x.G x.D x.nA x.cA x.nB x.cB x.nG x.cG x.nD x.cD s.txg s.keep s.same s.rows p (HX.out.rows.below hB) HX.out.lR h64 hz hp)
  have hnR := h.lR
  have HPV := Lib.hid (show p.v = .agg #[.int .i64 p.at_, .int .i64 p.birth, .int .i64 p.size, .int .i64 p.sum, .int .i64 p.level] from rfl)
  rw [HPV.out] at HP HRD
  rw [HPV.out]
  clear h HX
  obtain ⟨R, nR, cR, A, nA, cA, B, nB, cB, G, nG, cG, D, nD, cD⟩ := x
  unfold SA.v at *
  dsimp only at *
  have HBw := Lib.hid (below_alloc (below_alloc (Below.refl w.heap.size w) (.cells #[.slice R nR cR, .slice A nA cA, .slice B nB cB, .int .i64 s.txg, .slice G nG cG, .int .i64 s.keep, .slice D nD cD, .bool s.same] 47)) (.cells #[.int .i64 p.at_, .int .i64 p.birth, .int .i64 p.size, .int .i64 p.sum, .int .i64 p.level] 41))
  have BS := Lib.hid ((box_new w #[.slice R nR cR, .slice A nA cA, .slice B nB cB, .int .i64 s.txg, .slice G nG cG, .int .i64 s.keep, .slice D nD cD, .bool s.same] 47).alloc (.cells #[.int .i64 p.at_, .int .i64 p.birth, .int .i64 p.size, .int .i64 p.sum, .int .i64 p.level] 41))
  have BP := box_new (w.alloc (.cells #[.slice R nR cR, .slice A nA cA, .slice B nB cB, .int .i64 s.txg, .slice G nG cG, .int .i64 s.keep, .slice D nD cD, .bool s.same] 47)) #[.int .i64 p.at_, .int .i64 p.birth, .int .i64 p.size, .int .i64 p.sum, .int .i64 p.level] 41
  rw [World.size_alloc] at BP
  replace BP := Lib.hid BP
  cases hs : storeB s
  · rw [hs] at IO
    obtain ⟨E1, E2⟩ := sr_no1 (p := p) hs
    rw [E1, E2]
    clear hs E1 E2
    go_enter Try.func35, Try.ntmps35
    go_wp2_with fail
    refine Calls.mono (IO.out _ HBw.out) ?_
    rintro e w2 ⟨rfl, hB⟩
    have HB2 := Lib.hid (below_below HBw.out hB)
    clear hB
    go_wp2_with fail
    go_ret2
    exact ⟨rfl, HB2.out⟩
  · rw [hs] at IO
    have e64 : nR = 64 := by have := store_rows hs; omega
    subst e64
    clear hnR
    cases hp : ptrB p
    · rw [hp] at HP
      obtain ⟨E1, E2⟩ := sr_no2 (s := s) hp
      rw [E1, E2]
      clear hs hp E1 E2
      go_enter Try.func35, Try.ntmps35
      go_wp2_with fail
      refine Calls.mono (IO.out _ HBw.out) ?_
      rintro e w2 ⟨rfl, hB⟩
      have HB2 := Lib.hid (below_below HBw.out hB)
      have BP2 := Lib.hid (BP.out.below hB)
      have p2 := BP2.out.cell
      have pl2 := BP2.out.lt
      clear hB
      go_wp2_with fail
      refine Calls.mono (HP.out _) ?_
      rintro e w3 ⟨rfl, hB⟩
      have HB3 := Lib.hid (below_below HB2.out hB)
      clear hB p2
      go_wp2_with fail
      go_ret2
      exact ⟨rfl, HB3.out⟩
    · rw [hp] at HP
      obtain ⟨E1, E2⟩ := sr_yes hs hp
      rw [E1, E2]
      have HQ := Lib.hid (fun W (hB : Below w.heap.size w W) => HRD.out W hB rfl hp)
      clear hs hp E1 E2 HRD
      go_enter Try.func35, Try.ntmps35
      go_wp2_with fail
      refine Calls.mono (IO.out _ HBw.out) ?_
      rintro e w2 ⟨rfl, hB⟩
      have HB2 := Lib.hid (below_below HBw.out hB)
      have BP2 := Lib.hid (BP.out.below hB)
      have BS2 := Lib.hid (BS.out.below hB)
      have p2 := BP2.out.cell
      have pl2 := BP2.out.lt
      clear hB
      go_wp2_with fail
      refine Calls.mono (HP.out _) ?_
      rintro e w3 ⟨rfl, hB⟩
      have HB3 := Lib.hid (below_below HB2.out hB)
      have BP3 := Lib.hid (BP2.out.below hB)
      have BS3 := Lib.hid (BS2.out.below hB)
      have p3 := BP3.out.cell
      have pl3 := BP3.out.lt
      have s3 := BS3.out.cell
      have sl3 := BS3.out.lt
      clear hB p2
      go_wp2_with fail
      refine Calls.mono (HQ.out _ HB3.out) ?_
      rintro e w4 ⟨rfl, hB⟩
      have HB4 := Lib.hid (below_below HB3.out hB)
      clear hB p3 s3
      go_wp2_with fail
      go_ret2
      exact ⟨rfl, HB4.out⟩

section
open Go.ChangeShapes Go.WideShapes Go.ChangeAt
/-- A pointer that came in. -/
theorem open_ptr {H : Type} {enc : TypeId × Value → H} {W : World} {r : Reach} {b0 base : Nat} {v : Value} {dd : DataW H} {p : List MemPlace} (hval : Value.okWide Try.prog W r b0 59 v) (h : DataW.Trod enc Try.prog W base (fun _ => true) true 59 v dd p) :
    ∃ q : Pt, v = q.v := by
  have c5 : Try.prog.cellsOf 59 = 5 := by kernel_rfl
  obtain ⟨⟨cs⟩, rfl, hsz⟩ := okWide_struct Try.underlying59 hval
  obtain ⟨fuel, hf⟩ := h
  have hsz' : cs.length = 5 := by rw [← c5]; exact hsz
  obtain ⟨q, hq⟩ := pt_of_trod hsz' (show DataW.trod enc Try.prog W base (fun _ => true) true fuel 59 cs = some (dd, p) from hf)
  match cs, hsz' with
  | [x0, x1, x2, x3, x4], _ =>
    have e0 := hq 0 (by omega)
    have e1 := hq 1 (by omega)
    have e2 := hq 2 (by omega)
    have e3 := hq 3 (by omega)
    have e4 := hq 4 (by omega)
    cases e0; cases e1; cases e2; cases e3; cases e4
    exact ⟨q, rfl⟩
end

end Go.Proofs.Ytomofiklodojeaa
