/- Stores: as they lie in memory; the laws' own helpers over them. -/
import Derived.Test.YtomofiklodojeaaIntMark
import Derived.Test.YtomofiklodojeaaPtrS
import Derived.Test.YtomofiklodojeaaSpaceHelp
namespace Go.Proofs.Ytomofiklodojeaa
open Go.RowKit
set_option maxRecDepth 100000
set_option linter.unusedVariables false
set_option linter.unusedSimpArgs false

structure St where
  rows : List ByteArray
  refs : List Int
  last : List Int
  txg : Int
  gone : List Pt
  keep : Int
  dead : List Pt
  same : Bool
/-- Where a store's slices lie. -/
structure SA where
  R : Option Addr
  nR : Nat
  cR : Nat
  A : Option Addr
  nA : Nat
  cA : Nat
  B : Option Addr
  nB : Nat
  cB : Nat
  G : Option Addr
  nG : Nat
  cG : Nat
  D : Option Addr
  nD : Nat
  cD : Nat
def SA.v (x : SA) (t k : Int) (b : Bool) : Value := .agg #[.slice x.R x.nR x.cR, .slice x.A x.nA x.cA, .slice x.B x.nB x.cB, .int .i64 t, .slice x.G x.nG x.cG, .int .i64 k, .slice x.D x.nD x.cD, .bool b]
structure SRd (w : World) (x : SA) (s : St) : Prop where
  rows : RdT encS 1 w x.R s.rows
  refs : RdT encN 1 w x.A s.refs
  last : RdT encN 1 w x.B s.last
  gone : RdT encP 5 w x.G s.gone
  dead : RdT encP 5 w x.D s.dead
  lR : s.rows.length = x.nR
  lA : s.refs.length = x.nA
  lB : s.last.length = x.nB
  lG : s.gone.length = x.nG
  lD : s.dead.length = x.nD
  hR : x.nR ≤ x.cR
  hA : x.nA ≤ x.cA
  hB : x.nB ≤ x.cB
  hG : x.nG ≤ x.cG
  hD : x.nD ≤ x.cD
  mR : x.cR ≤ 9223372036854775807
  mA : x.cA ≤ 9223372036854775807
  mB : x.cB ≤ 9223372036854775807
  mG : x.cG ≤ 9223372036854775807
  mD : x.cD ≤ 9223372036854775807
theorem SRd.below {w w' : World} {x : SA} {s : St} (h : SRd w x s) (hb : Below w.heap.size w w') : SRd w' x s :=
  { h with rows := h.rows.below hb, refs := h.refs.below hb, last := h.last.below hb, gone := h.gone.below hb, dead := h.dead.below hb }
/-- The rows are the call's own, and apart. -/
structure SOwn (base : Nat) (w : World) (x : SA) (s : St) : Prop where
  rows : Own encS 1 9 base w (.slice x.R x.nR x.cR) s.rows
  refs : Own encN 1 3 base w (.slice x.A x.nA x.cA) s.refs
  last : Own encN 1 3 base w (.slice x.B x.nB x.cB) s.last
  gone : Own encP 5 41 base w (.slice x.G x.nG x.cG) s.gone
  dead : Own encP 5 41 base w (.slice x.D x.nD x.cD) s.dead
  rA : Apart (.slice x.R x.nR x.cR) (.slice x.A x.nA x.cA)
  rB : Apart (.slice x.R x.nR x.cR) (.slice x.B x.nB x.cB)
  rG : Apart (.slice x.R x.nR x.cR) (.slice x.G x.nG x.cG)
  rD : Apart (.slice x.R x.nR x.cR) (.slice x.D x.nD x.cD)
  aB : Apart (.slice x.A x.nA x.cA) (.slice x.B x.nB x.cB)
  aG : Apart (.slice x.A x.nA x.cA) (.slice x.G x.nG x.cG)
  aD : Apart (.slice x.A x.nA x.cA) (.slice x.D x.nD x.cD)
  bG : Apart (.slice x.B x.nB x.cB) (.slice x.G x.nG x.cG)
  bD : Apart (.slice x.B x.nB x.cB) (.slice x.D x.nD x.cD)
  gD : Apart (.slice x.G x.nG x.cG) (.slice x.D x.nD x.cD)
theorem SOwn.rd {base : Nat} {w : World} {x : SA} {s : St} (h : SOwn base w x s) : SRd w x s := by
  obtain ⟨a1, a2, a3, a4⟩ := own_rdG h.rows
  obtain ⟨b1, b2, b3, b4⟩ := own_rdG h.refs
  obtain ⟨c1, c2, c3, c4⟩ := own_rdG h.last
  obtain ⟨d1, d2, d3, d4⟩ := own_rdG h.gone
  obtain ⟨e1, e2, e3, e4⟩ := own_rdG h.dead
  exact ⟨a1, b1, c1, d1, e1, a2, b2, c2, d2, e2, a3, b3, c3, d3, e3, a4, b4, c4, d4, e4⟩
theorem SOwn.below {base : Nat} {w w' : World} {x : SA} {s : St} (h : SOwn base w x s) (hb : Below w.heap.size w w') : SOwn base w' x s :=
  { h with rows := h.rows.below hb, refs := h.refs.below hb, last := h.last.below hb, gone := h.gone.below hb, dead := h.dead.below hb }
def SA.ex (x : SA) : List Nat := exOf' (.slice x.R x.nR x.cR) ++ (exOf' (.slice x.A x.nA x.cA) ++ (exOf' (.slice x.B x.nB x.cB) ++ (exOf' (.slice x.G x.nG x.cG) ++ exOf' (.slice x.D x.nD x.cD))))
theorem SOwn.ex_in {base : Nat} {w : World} {x : SA} {s : St} (h : SOwn base w x s) : ∀ k ∈ x.ex, base ≤ k ∧ k < w.heap.size := fun k hk => by
  simp only [SA.ex, List.mem_append] at hk
  rcases hk with hk | hk | hk | hk | hk
  · exact own_in h.rows k hk
  · exact own_in h.refs k hk
  · exact own_in h.last k hk
  · exact own_in h.gone k hk
  · exact own_in h.dead k hk
theorem box_kp {ex : List Nat} {w W : World} {o : Obj} (hK : Kp ex (w.alloc o) W) (hex : ∀ k ∈ ex, k < w.heap.size) : ∀ j, W.cell? ⟨w.heap.size, j, none⟩ = (w.alloc o).cell? ⟨w.heap.size, j, none⟩ := fun j =>
  hK.cell (by simp) (fun hm => absurd (hex _ hm) (by omega))

set_option maxHeartbeats 4000000 in
theorem eqStore_true (w : World) (x y : SA) (s : St) (hx : SRd w x s) (hy : SRd w y s) :
    Calls Try.prog 28 #[x.v s.txg s.keep s.same, y.v s.txg s.keep s.same] w fun e w' => e = .returned (.bool true) ∧ Below w.heap.size w w' := by
  have HX := Lib.hid hx
  have HY := Lib.hid hy
  clear hx hy
  have E1 := Lib.hid (fun W (hB : Below w.heap.size w W) => (by have := eqStringS_true W x.R y.R x.cR y.cR s.rows (HX.out.rows.below hB) (HY.out.rows.below hB) (by rw [HX.out.lR]; exact HX.out.hR) (by rw [HY.out.lR]; exact HY.out.hR) HX.out.mR; rw [HX.out.lR] at this; have h2 := HY.out.lR; rw [HX.out.lR] at h2; rw [← h2]; exact this : Calls Try.prog 65 #[.slice x.R x.nR x.cR, .slice y.R y.nR y.cR] W fun e w' => e = .returned (.bool true) ∧ Below W.heap.size W w'))
  have E2 := Lib.hid (fun W (hB : Below w.heap.size w W) => (by have := eqSpace_true W x.A x.B y.A y.B x.cA x.cB y.cA y.cB s.refs s.last (HX.out.refs.below hB) (HX.out.last.below hB) (HY.out.refs.below hB) (HY.out.last.below hB) (by rw [HX.out.lA]; exact HX.out.hA) (by rw [HX.out.lB]; exact HX.out.hB) (by rw [HY.out.lA]; exact HY.out.hA) (by rw [HY.out.lB]; exact HY.out.hB) HX.out.mA HX.out.mB; have h2 := HY.out.lA; have h3 := HY.out.lB; rw [HX.out.lA] at h2; rw [HX.out.lB] at h3; rw [HX.out.lA, HX.out.lB] at this; rw [← h2, ← h3]; exact this : Calls Try.prog 18 #[.agg #[.slice x.A x.nA x.cA, .slice x.B x.nB x.cB], .agg #[.slice y.A y.nA y.cA, .slice y.B y.nB y.cB]] W fun e w' => e = .returned (.bool true) ∧ Below W.heap.size W w'))
  have E3 := Lib.hid (fun W (hB : Below w.heap.size w W) => (by have := eqPtrS_true W x.G y.G x.cG y.cG s.gone (HX.out.gone.below hB) (HY.out.gone.below hB) (by rw [HX.out.lG]; exact HX.out.hG) (by rw [HY.out.lG]; exact HY.out.hG) HX.out.mG; rw [HX.out.lG] at this; have h2 := HY.out.lG; rw [HX.out.lG] at h2; rw [← h2]; exact this : Calls Try.prog 19 #[.slice x.G x.nG x.cG, .slice y.G y.nG y.cG] W fun e w' => e = .returned (.bool true) ∧ Below W.heap.size W w'))
  have E4 := Lib.hid (fun W (hB : Below w.heap.size w W) => (by have := eqPtrS_true W x.D y.D x.cD y.cD s.dead (HX.out.dead.below hB) (HY.out.dead.below hB) (by rw [HX.out.lD]; exact HX.out.hD) (by rw [HY.out.lD]; exact HY.out.hD) HX.out.mD; rw [HX.out.lD] at this; have h2 := HY.out.lD; rw [HX.out.lD] at h2; rw [← h2]; exact this : Calls Try.prog 19 #[.slice x.D x.nD x.cD, .slice y.D y.nD y.cD] W fun e w' => e = .returned (.bool true) ∧ Below W.heap.size W w'))
  clear HX HY
  obtain ⟨R, nR, cR, A, nA, cA, B, nB, cB, G, nG, cG, D, nD, cD⟩ := x
  obtain ⟨R', nR', cR', A', nA', cA', B', nB', cB', G', nG', cG', D', nD', cD'⟩ := y
  obtain ⟨rows, refs, last, txg, gone, keep, dead, same⟩ := s
  unfold SA.v
  dsimp only at *
  have HBw := Lib.hid (below_alloc (below_alloc (Below.refl w.heap.size w) (.cells #[.slice R nR cR, .slice A nA cA, .slice B nB cB, .int .i64 txg, .slice G nG cG, .int .i64 keep, .slice D nD cD, .bool same] 47)) (.cells #[.slice R' nR' cR', .slice A' nA' cA', .slice B' nB' cB', .int .i64 txg, .slice G' nG' cG', .int .i64 keep, .slice D' nD' cD', .bool same] 47))
  go_enter Try.func28, Try.ntmps28
  go_wp2_with fail
  refine Calls.mono (E1.out _ HBw.out) ?_
  rintro e w1 ⟨rfl, hB⟩
  obtain ⟨c1, f1⟩ := bcell hB
  have hsz := hB.size
  simp only [World.size_alloc] at hsz
  have hx1 : w.heap.size < w1.heap.size := by omega
  have hy1 : w.heap.size + 1 < w1.heap.size := by omega
  have HB1 := Lib.hid (below_below HBw.out hB)
  clear hB hsz
  go_wp2_with fail
  refine Calls.mono (E2.out _ HB1.out) ?_
  rintro e w2 ⟨rfl, hB⟩
  obtain ⟨c2, f2⟩ := bcell hB
  have hsz := hB.size
  have hx2 : w.heap.size < w2.heap.size := by omega
  have hy2 : w.heap.size + 1 < w2.heap.size := by omega
  have HB2 := Lib.hid (below_below HB1.out hB)
  clear hB hsz
  go_wp2_with fail
  refine Calls.mono (E3.out _ HB2.out) ?_
  rintro e w3 ⟨rfl, hB⟩
  obtain ⟨c3, f3⟩ := bcell hB
  have hsz := hB.size
  have hx3 : w.heap.size < w3.heap.size := by omega
  have hy3 : w.heap.size + 1 < w3.heap.size := by omega
  have HB3 := Lib.hid (below_below HB2.out hB)
  clear hB hsz
  go_wp2_with fail
  refine Calls.mono (E4.out _ HB3.out) ?_
  rintro e w4 ⟨rfl, hB⟩
  obtain ⟨c4, f4⟩ := bcell hB
  have HB4 := Lib.hid (below_below HB3.out hB)
  clear hB
  go_wp2_with fail
  go_ret
  exact ⟨rfl, HB4.out⟩

end Go.Proofs.Ytomofiklodojeaa
