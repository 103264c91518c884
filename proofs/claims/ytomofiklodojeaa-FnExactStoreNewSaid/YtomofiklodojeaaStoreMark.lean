/- Marking a store, and whether the marks are still there. -/
import Derived.Test.YtomofiklodojeaaStoreHelp
namespace Go.Proofs.Ytomofiklodojeaa
open Go.RowKit
set_option maxRecDepth 100000
set_option linter.unusedVariables false
set_option linter.unusedSimpArgs false

/-- A store's rows marked, from 1 on. -/
def marked (x : SA) (s : St) : St := { s with
  rows := markT 1 x.nR, refs := markN (1 + x.nR) x.nA, last := markN (1 + x.nR + x.nA) x.nB,
  gone := markP (1 + x.nR + x.nA + x.nB) x.nG, dead := markP (1 + x.nR + x.nA + x.nB + 5 * x.nG) x.nD }
def markSum (x : SA) : Nat := 1 + x.nR + x.nA + x.nB + 5 * x.nG + 5 * x.nD

set_option maxHeartbeats 4000000 in
theorem heldStore_any (w : World) (x : SA) (s : St) (t k : Int) (b : Bool) (h : SRd w x (marked x s)) (bR : x.nR ≤ 1048576) (bA : x.nA ≤ 1048576) (bB : x.nB ≤ 1048576) (bG : x.nG ≤ 1048576) (bD : x.nD ≤ 1048576) :
    Calls Try.prog 30 #[x.v t k b, .int .i64 1] w fun e w' => e = .returned (.int .i64 (markSum x : Nat)) ∧ Below w.heap.size w w' := by
  have H := Lib.hid h
  clear h
  have E1 := Lib.hid (fun W (hB : Below w.heap.size w W) => heldStringS_any W x.R x.cR x.nR 1 (H.out.rows.below hB) H.out.hR bR (by omega) (by omega))
  have E2 := Lib.hid (fun W (hB : Below w.heap.size w W) => heldSpace_any W x.A x.B x.cA x.cB x.nA x.nB (1 + x.nR) (H.out.refs.below hB) (H.out.last.below hB) H.out.hA H.out.hB bA bB (by omega))
  have E3 := Lib.hid (fun W (hB : Below w.heap.size w W) => heldPtrS_any W x.G x.cG x.nG (1 + x.nR + x.nA + x.nB) (H.out.gone.below hB) H.out.hG bG (by omega))
  have E4 := Lib.hid (fun W (hB : Below w.heap.size w W) => heldPtrS_any W x.D x.cD x.nD (1 + x.nR + x.nA + x.nB + 5 * x.nG) (H.out.dead.below hB) H.out.hD bD (by omega))
  clear H
  unfold SA.v markSum
  obtain ⟨R, nR, cR, A, nA, cA, B, nB, cB, G, nG, cG, D, nD, cD⟩ := x
  dsimp only at *
  have hk5 : 1 + nR + nA + nB + 5 * nG + 5 * nD ≤ 100000000 := by omega
  generalize 1 + nR + nA + nB + 5 * nG + 5 * nD = k5 at *
  have hk4 : 1 + nR + nA + nB + 5 * nG ≤ 100000000 := by omega
  generalize 1 + nR + nA + nB + 5 * nG = k4 at *
  have hk3 : 1 + nR + nA + nB ≤ 100000000 := by omega
  generalize 1 + nR + nA + nB = k3 at *
  have hk1 : 1 + nR ≤ 100000000 := by omega
  generalize 1 + nR = k1 at *
  have HBw := Lib.hid (below_alloc (Below.refl w.heap.size w) (.cells #[.slice R nR cR, .slice A nA cA, .slice B nB cB, .int .i64 t, .slice G nG cG, .int .i64 k, .slice D nD cD, .bool b] 47))
  go_enter Try.func30, Try.ntmps30
  go_wp2_with fail
  refine Calls.mono (E1.out _ HBw.out) ?_
  rintro e w1 ⟨rfl, hB⟩
  obtain ⟨c1, f1⟩ := bcell hB
  have hsz := hB.size
  simp only [World.size_alloc] at hsz
  have hx1 : w.heap.size < w1.heap.size := by omega
  have HB1 := Lib.hid (below_below HBw.out hB)
  clear hB hsz
  go_wp2_with fail
  refine Calls.mono (E2.out _ HB1.out) ?_
  rintro e w2 ⟨rfl, hB⟩
  obtain ⟨c2, f2⟩ := bcell hB
  have hsz := hB.size
  have hx2 : w.heap.size < w2.heap.size := by omega
  have HB2 := Lib.hid (below_below HB1.out hB)
  clear hB hsz
  go_wp2_with fail
  refine Calls.mono (E3.out _ HB2.out) ?_
  rintro e w3 ⟨rfl, rfl⟩
  go_wp2_with fail
  refine Calls.mono (E4.out _ HB2.out) ?_
  rintro e w4 ⟨rfl, rfl⟩
  go_wp2_with fail
  go_ret
  exact ⟨rfl, HB2.out⟩

def MarkSt (base : Nat) (w : World) (x : SA) (s : St) (e : Ending) (w' : World) : Prop := e = .returned (.int .i64 (markSum x : Nat)) ∧ SOwn base w' x (marked x s) ∧ Kp x.ex w w'

theorem markT_len' {x : SA} : (markT 1 x.nR).length = x.nR := markT_length _ _

set_option maxHeartbeats 4000000 in
theorem markStore_any (base : Nat) (w : World) (x : SA) (s : St) (t k : Int) (b : Bool) (h : SOwn base w x s) (bR : x.nR ≤ 1048576) (bA : x.nA ≤ 1048576) (bB : x.nB ≤ 1048576) (bG : x.nG ≤ 1048576) (bD : x.nD ≤ 1048576) :
    Calls Try.prog 29 #[x.v t k b, .int .i64 1] w (MarkSt base w x s) := by
  have HEX := Lib.hid h.ex_in
  have HA := Lib.hid h
  have hr := h.rd
  have lR := hr.lR
  have lA := hr.lA
  have lB := hr.lB
  have lG := hr.lG
  have lD := hr.lD
  have E1 := Lib.hid (fun W (O : Own encS 1 9 base W (.slice x.R x.nR x.cR) s.rows) => (by have := markStringS_any base W (.slice x.R x.nR x.cR) 1 s.rows O (by omega) (by omega) (by omega); rw [lR] at this; exact this : Calls Try.prog 66 #[.slice x.R x.nR x.cR, .int .i64 1] W fun e w' => e = .returned (.int .i64 (1 + x.nR : Nat)) ∧ Own encS 1 9 base w' (.slice x.R x.nR x.cR) (markT 1 x.nR) ∧ Kp (exOf' (.slice x.R x.nR x.cR)) W w'))
  have E2 := Lib.hid (fun W (O : Own encN 1 3 base W (.slice x.A x.nA x.cA) s.refs) (O2 : Own encN 1 3 base W (.slice x.B x.nB x.cB) s.last) => (by have := markSpace_any base W x.A x.B x.cA x.cB (1 + x.nR) s.refs s.last (by rw [lA]; exact O) (by rw [lB]; exact O2) (by rw [lA, lB]; exact HA.out.aB) (by omega) (by omega) (by omega); rw [lA, lB] at this; exact this : Calls Try.prog 21 #[.agg #[.slice x.A x.nA x.cA, .slice x.B x.nB x.cB], .int .i64 (1 + x.nR : Nat)] W fun e w' => e = .returned (.int .i64 (1 + x.nR + x.nA + x.nB : Nat)) ∧ Own encN 1 3 base w' (.slice x.A x.nA x.cA) (markN (1 + x.nR) x.nA) ∧ Own encN 1 3 base w' (.slice x.B x.nB x.cB) (markN (1 + x.nR + x.nA) x.nB) ∧ Kp (exOf' (.slice x.A x.nA x.cA) ++ exOf' (.slice x.B x.nB x.cB)) W w'))
  have E3 := Lib.hid (fun W (O : Own encP 5 41 base W (.slice x.G x.nG x.cG) s.gone) => (by have := markPtrS_any base W (.slice x.G x.nG x.cG) (1 + x.nR + x.nA + x.nB) s.gone O (by omega) (by omega); rw [lG] at this; exact this : Calls Try.prog 20 #[.slice x.G x.nG x.cG, .int .i64 (1 + x.nR + x.nA + x.nB : Nat)] W fun e w' => e = .returned (.int .i64 (1 + x.nR + x.nA + x.nB + 5 * x.nG : Nat)) ∧ Own encP 5 41 base w' (.slice x.G x.nG x.cG) (markP (1 + x.nR + x.nA + x.nB) x.nG) ∧ Kp (exP (.slice x.G x.nG x.cG)) W w'))
  have E4 := Lib.hid (fun W (O : Own encP 5 41 base W (.slice x.D x.nD x.cD) s.dead) => (by have := markPtrS_any base W (.slice x.D x.nD x.cD) (1 + x.nR + x.nA + x.nB + 5 * x.nG) s.dead O (by omega) (by omega); rw [lD] at this; exact this : Calls Try.prog 20 #[.slice x.D x.nD x.cD, .int .i64 (1 + x.nR + x.nA + x.nB + 5 * x.nG : Nat)] W fun e w' => e = .returned (.int .i64 (1 + x.nR + x.nA + x.nB + 5 * x.nG + 5 * x.nD : Nat)) ∧ Own encP 5 41 base w' (.slice x.D x.nD x.cD) (markP (1 + x.nR + x.nA + x.nB + 5 * x.nG) x.nD) ∧ Kp (exP (.slice x.D x.nD x.cD)) W w'))
  clear h hr lR lA lB lG lD
  have m1 : ∀ k ∈ exOf' (.slice x.R x.nR x.cR), k ∈ x.ex := fun k hk => by simp only [SA.ex, List.mem_append]; exact .inl hk
  have m2 : ∀ k ∈ exOf' (.slice x.A x.nA x.cA) ++ exOf' (.slice x.B x.nB x.cB), k ∈ x.ex := fun k hk => by
    rcases List.mem_append.1 hk with hk | hk
    · simp only [SA.ex, List.mem_append]; exact .inr (.inl hk)
    · simp only [SA.ex, List.mem_append]; exact .inr (.inr (.inl hk))
  have m3 : ∀ k ∈ exP (.slice x.G x.nG x.cG), k ∈ x.ex := fun k hk => by simp only [SA.ex, List.mem_append]; exact .inr (.inr (.inr (.inl hk)))
  have m4 : ∀ k ∈ exP (.slice x.D x.nD x.cD), k ∈ x.ex := fun k hk => by simp only [SA.ex, List.mem_append]; exact .inr (.inr (.inr (.inr hk)))
  have M1 := Lib.hid m1
  have M2 := Lib.hid m2
  have M3 := Lib.hid m3
  have M4 := Lib.hid m4
  clear m1 m2 m3 m4
  have hLT : ∀ k ∈ x.ex, k < w.heap.size := fun k hk => (HEX.out k hk).2
  have HLT := Lib.hid hLT
  clear hLT
  have HV : Hid (∀ W, MarkSt base w x s (.returned (.int .i64 (markSum x : Nat))) W ↔ (SOwn base W x (marked x s) ∧ Kp x.ex w W)) := Lib.hid (fun W => ⟨fun h => h.2, fun h => ⟨rfl, h⟩⟩)
  have HBw := Lib.hid (below_alloc (Below.refl w.heap.size w) (.cells #[.slice x.R x.nR x.cR, .slice x.A x.nA x.cA, .slice x.B x.nB x.cB, .int .i64 t, .slice x.G x.nG x.cG, .int .i64 k, .slice x.D x.nD x.cD, .bool b] 47))
  have S0 := Lib.hid (HA.out.below HBw.out)
  unfold SA.v
  have HF := Lib.hid (show markSum x = 1 + x.nR + x.nA + x.nB + 5 * x.nG + 5 * x.nD from rfl)
  have hk5 : 1 + x.nR + x.nA + x.nB + 5 * x.nG + 5 * x.nD ≤ 100000000 := by omega
  have hk4 : 1 + x.nR + x.nA + x.nB + 5 * x.nG ≤ 100000000 := by omega
  have hk3 : 1 + x.nR + x.nA + x.nB ≤ 100000000 := by omega
  have hk1 : 1 + x.nR ≤ 100000000 := by omega
  have HM := Lib.hid (show ∀ W, Own encS 1 9 base W (.slice x.R x.nR x.cR) (markT 1 x.nR) → Own encN 1 3 base W (.slice x.A x.nA x.cA) (markN (1 + x.nR) x.nA) → Own encN 1 3 base W (.slice x.B x.nB x.cB) (markN (1 + x.nR + x.nA) x.nB) →
      Own encP 5 41 base W (.slice x.G x.nG x.cG) (markP (1 + x.nR + x.nA + x.nB) x.nG) → Own encP 5 41 base W (.slice x.D x.nD x.cD) (markP (1 + x.nR + x.nA + x.nB + 5 * x.nG) x.nD) → Kp x.ex w W → MarkSt base w x s (.returned (.int .i64 (markSum x : Nat))) W from
    fun W a b c d e hk => ⟨rfl, ⟨a, b, c, d, e, HA.out.rA, HA.out.rB, HA.out.rG, HA.out.rD, HA.out.aB, HA.out.aG, HA.out.aD, HA.out.bG, HA.out.bD, HA.out.gD⟩, hk⟩)
  generalize 1 + x.nR + x.nA + x.nB + 5 * x.nG + 5 * x.nD = k5 at *
  generalize 1 + x.nR + x.nA + x.nB + 5 * x.nG = k4 at *
  generalize 1 + x.nR + x.nA + x.nB = k3 at *
  generalize 1 + x.nR + x.nA = k2 at *
  generalize 1 + x.nR = k1 at *
  rw [HF.out] at HM
  clear HV HF
  go_enter Try.func29, Try.ntmps29
  go_wp2_with fail
  refine Calls.mono (E1.out _ S0.out.rows) ?_
  rintro e w1 ⟨rfl, hO, hK⟩
  have b1 := box_kp (hK.mono M1.out) HLT.out
  have K1 := Lib.hid (hK.mono M1.out)
  have r1 := Lib.hid hO
  have a1 := Lib.hid (S0.out.refs.kpx hK HA.out.rA)
  have l1 := Lib.hid (S0.out.last.kpx hK HA.out.rB)
  have g1 := Lib.hid (S0.out.gone.kpx hK HA.out.rG)
  have d1 := Lib.hid (S0.out.dead.kpx hK HA.out.rD)
  clear hO hK S0
  go_wp2_with fail
  refine Calls.mono (E2.out _ a1.out l1.out) ?_
  rintro e w2 ⟨rfl, hO, hO', hK⟩
  have b2 := box_kp (K1.out.trans (hK.mono M2.out)) HLT.out
  have K2 := Lib.hid (K1.out.trans (hK.mono M2.out))
  have r2 := Lib.hid (r1.out.kp hK (fun k hm e => by
    rcases List.mem_append.1 hm with hm | hm
    · exact HA.out.rA k (mem_exOf' e) hm
    · exact HA.out.rB k (mem_exOf' e) hm))
  have a2 := Lib.hid hO
  have l2 := Lib.hid hO'
  have g2 := Lib.hid (g1.out.kp hK (fun k hm e => by
    rcases List.mem_append.1 hm with hm | hm
    · exact HA.out.aG k hm (mem_exOf' e)
    · exact HA.out.bG k hm (mem_exOf' e)))
  have d2 := Lib.hid (d1.out.kp hK (fun k hm e => by
    rcases List.mem_append.1 hm with hm | hm
    · exact HA.out.aD k hm (mem_exOf' e)
    · exact HA.out.bD k hm (mem_exOf' e)))
  clear hO hO' hK b1 K1 r1 a1 l1 g1 d1
  go_wp2_with fail
  refine Calls.mono (E3.out _ g2.out) ?_
  rintro e w3 ⟨rfl, hO, hK⟩
  have b3 := box_kp (K2.out.trans (hK.mono M3.out)) HLT.out
  have K3 := Lib.hid (K2.out.trans (hK.mono M3.out))
  have r3 := Lib.hid (r2.out.kpx hK HA.out.rG.symm)
  have a3 := Lib.hid (a2.out.kpx hK HA.out.aG.symm)
  have l3 := Lib.hid (l2.out.kpx hK HA.out.bG.symm)
  have g3 := Lib.hid hO
  have d3 := Lib.hid (d2.out.kpx hK HA.out.gD)
  clear hO hK b2 K2 r2 a2 l2 g2 d2
  go_wp2_with fail
  refine Calls.mono (E4.out _ d3.out) ?_
  rintro e w4 ⟨rfl, hO, hK⟩
  have K4 := Lib.hid (((Kp.of_below HBw.out).all x.ex).trans (K3.out.trans (hK.mono M4.out)))
  have r4 := Lib.hid (r3.out.kpx hK HA.out.rD.symm)
  have a4 := Lib.hid (a3.out.kpx hK HA.out.aD.symm)
  have l4 := Lib.hid (l3.out.kpx hK HA.out.bD.symm)
  have g4 := Lib.hid (g3.out.kpx hK HA.out.gD.symm)
  have d4 := Lib.hid hO
  clear hO hK b3 K3 r3 a3 l3 g3 d3
  go_wp2_with fail
  go_ret
  exact HM.out _ r4.out a4.out l4.out g4.out d4.out K4.out

end Go.Proofs.Ytomofiklodojeaa
