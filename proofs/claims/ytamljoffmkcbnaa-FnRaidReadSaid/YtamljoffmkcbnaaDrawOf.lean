/- A pointer of a list drawn: the reference's l91Of. -/
import Derived.Test.YtamljoffmkcbnaaDrawPtr2
import Derived.Test.YtamljoffmkcbnaaPtrS
namespace Go.Proofs.Ytamljoffmkcbnaa
open Go.RowKit Go.Sort
set_option maxRecDepth 100000
set_option linter.unusedVariables false
set_option linter.unusedSimpArgs false

theorem ptr_endN {w wk : World} {rb p k N : Nat} (q : Pt) {v0 v1 v2 v3 v4 : Value} (K : Kp [rb] w wk) (R : Rs wk rb (p + k)) (hl : rb < w.heap.size) (hk : k ≤ N) :
    PtrD N w rb p (.returned q.v) (((((wk.setCell ⟨w.heap.size, 0, none⟩ v0).setCell ⟨w.heap.size, 1, none⟩ v1).setCell ⟨w.heap.size, 2, none⟩ v2).setCell ⟨w.heap.size, 3, none⟩ v3).setCell ⟨w.heap.size, 4, none⟩ v4) :=
  ⟨q, k, rfl, R.kp ((((((Kp.refl [w.heap.size] wk).setCell (.inl (by simp)) v0).setCell (.inl (by simp)) v1).setCell (.inl (by simp)) v2).setCell (.inl (by simp)) v3).setCell (.inl (by simp)) v4) (by simp; omega), hk,
    ((((K.setCell (.inr (Nat.le_refl _)) v0).setCell (.inr (Nat.le_refl _)) v1).setCell (.inr (Nat.le_refl _)) v2).setCell (.inr (Nat.le_refl _)) v3).setCell (.inr (Nat.le_refl _)) v4⟩

set_option maxHeartbeats 4000000 in
theorem l91Of_any (w : World) (rb p : Nat) (LA : Option Addr) (lc : Nat) (l : List Pt) (h : Rs w rb p) (hp : p ≤ 850000) (hL : RdT encP 5 w LA l) (hF : ∀ a, LA = some a → rb < a.block) (h10 : l.length ≤ 10) (hlc : l.length ≤ lc) (hm : lc ≤ 9223372036854775807) :
    Calls Try.prog 40 #[.pointer (some ⟨rb, 0, none⟩), .slice LA l.length lc] w (PtrD 50 w rb p) := by
  have hr := h
  have hl := hr.lt
  clear h
  have BX0 := Lib.hid (box_new w #[.int .i64 0, .int .i64 0, .int .i64 0, .int .i64 0, .int .i64 0] 29)
  have R0 := Lib.hid (Rs.alloc hr (.cells #[.int .i64 0, .int .i64 0, .int .i64 0, .int .i64 0, .int .i64 0] 29))
  have K0 := Lib.hid ((Kp.refl [rb] w).alloc (.cells #[.int .i64 0, .int .i64 0, .int .i64 0, .int .i64 0, .int .i64 0] 29))
  have L0 := Lib.hid (hL.below (below_alloc (Below.refl w.heap.size w) (.cells #[.int .i64 0, .int .i64 0, .int .i64 0, .int .i64 0, .int .i64 0] 29)))
  have HF := Lib.hid hF
  clear hr hL hF
  obtain ⟨n, hn⟩ : ∃ n : Nat, n = l.length := ⟨_, rfl⟩
  have HN := Lib.hid hn
  rw [← hn] at h10 hlc ⊢
  clear hn
  by_cases hz : (n : Int) = 0
  · have e0 : ((n : Int) == 0) = true := by simpa using hz
    clear hz
    go_enter Try.func40, Try.ntmps40
    go_wp2_with fail
    refine Calls.mono (l91Ptr_any _ _ _ R0.out (by omega)) ?_
    rintro e w3 ⟨⟨p0, p1, p2, p3, p4⟩, q3, he, hr3, hq3, hk3⟩
    unfold Pt.v at he
    dsimp only at he
    subst he
    have K3 := Lib.hid (K0.out.trans hk3)
    have BX3 := Lib.hid (BX0.out.kp hk3 (by simp; omega))
    have bx3 := BX3.out.cell
    have bf3 := BX3.out.froz
    have bl3 := BX3.out.lt
    have HE := Lib.hid (ptr_endN (N := 50) (v0 := .int .i64 p0) (v1 := .int .i64 p1) (v2 := .int .i64 p2) (v3 := .int .i64 p3) (v4 := .int .i64 p4) ⟨p0, p1, p2, p3, p4⟩ K3.out (k := q3) (by rw [show p + (q3) = p + q3 by omega]; exact hr3) hl (by omega))
    clear hk3 hr3
    go_wp2_with fail
    refine bodyPost_ret (v := .agg #[.int .i64 p0, .int .i64 p1, .int .i64 p2, .int .i64 p3, .int .i64 p4]) (by simp [results, Try.results40, go_sem, bx3, bl3]) rfl ?_
    exact HE.out
  have e0 : ((n : Int) == 0) = false := by simpa using hz
  have hn0 : 0 < n := by omega
  clear hz
  go_enter Try.func40, Try.ntmps40
  go_wp2_with fail
  refine Calls.mono (pick_nat _ _ _ _ R0.out (by omega) (by omega) (by omega)) ?_
  rintro e w1 ⟨k9, rfl, hk9, hr1, hk1⟩
  have R1 := Lib.hid hr1
  have K1 := Lib.hid (K0.out.trans hk1)
  have BX1 := Lib.hid (BX0.out.kp hk1 (by simp; omega))
  have L1 := Lib.hid (L0.out.kp hk1 (fun _ a ha hm => by have := HF.out a ha; simp at hm; omega))
  clear hr1 hk1 hk9 R0 K0 BX0 L0
  by_cases hz9 : (k9 : Int) = 0
  · have e9 : ((k9 : Int) == 0) = true := by simpa using hz9
    clear hz9
    go_wp2_with fail
    refine Calls.mono (l91Ptr_any _ _ _ R1.out (by omega)) ?_
    rintro e w3 ⟨⟨p0, p1, p2, p3, p4⟩, q3, he, hr3, hq3, hk3⟩
    unfold Pt.v at he
    dsimp only at he
    subst he
    have K3 := Lib.hid (K1.out.trans hk3)
    have BX3 := Lib.hid (BX1.out.kp hk3 (by simp; omega))
    have bx3 := BX3.out.cell
    have bf3 := BX3.out.froz
    have bl3 := BX3.out.lt
    have HE := Lib.hid (ptr_endN (N := 50) (v0 := .int .i64 p0) (v1 := .int .i64 p1) (v2 := .int .i64 p2) (v3 := .int .i64 p3) (v4 := .int .i64 p4) ⟨p0, p1, p2, p3, p4⟩ K3.out (k := 1 + q3) (by rw [show p + (1 + q3) = p + 1 + q3 by omega]; exact hr3) hl (by omega))
    clear hk3 hr3
    go_wp2_with fail
    refine bodyPost_ret (v := .agg #[.int .i64 p0, .int .i64 p1, .int .i64 p2, .int .i64 p3, .int .i64 p4]) (by simp [results, Try.results40, go_sem, bx3, bl3]) rfl ?_
    exact HE.out
  have e9 : ((k9 : Int) == 0) = false := by simpa using hz9
  clear hz9
  go_wp2_with fail
  refine Calls.mono (pick_nat _ _ _ _ R1.out (by omega) (by omega) (by omega)) ?_
  rintro e w2 ⟨j, rfl, hj, hr2, hk2⟩
  have HR2 := Lib.hid hr2
  have K2 := Lib.hid (K1.out.trans hk2)
  have BX2 := Lib.hid (BX1.out.kp hk2 (by simp; omega))
  have L2 := Lib.hid (L1.out.kp hk2 (fun _ a ha hm => by have := HF.out a ha; simp at hm; omega))
  have hjn : j < n := by simpa using hj
  have hjI : (j : Int) < (n : Int) := by omega
  clear hr2 hk2 hj R1 K1 BX1 L1 hn0
  obtain ⟨b, off, ⟨p0, p1, p2, p3, p4⟩, rfl, hb, he, c0, c1, c2, c3, c4⟩ := L2.out.ptr (k := j) (by rw [← HN.out]; exact hjn)
  dsimp only at c0 c1 c2 c3 c4
  have bx2 := BX2.out.cell
  have bf2 := BX2.out.froz
  have bl2 := BX2.out.lt
  have HE := Lib.hid (ptr_endN (N := 50) (v0 := .int .i64 p0) (v1 := .int .i64 p1) (v2 := .int .i64 p2) (v3 := .int .i64 p3) (v4 := .int .i64 p4) ⟨p0, p1, p2, p3, p4⟩ K2.out (k := 2) (by exact HR2.out) hl (by omega))
  clear he
  go_wp2_with fail
  refine bodyPost_ret (v := .agg #[.int .i64 p0, .int .i64 p1, .int .i64 p2, .int .i64 p3, .int .i64 p4]) (by simp [results, Try.results40, go_sem, bx2, bl2]) rfl ?_
  exact HE.out

end Go.Proofs.Ytamljoffmkcbnaa
