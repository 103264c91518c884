/- FnExactStoreNew returns true for both Bools. No condition. -/
import Derived.Test.YtomofiklodojeaaStoreNew2
import Derived.Test.YtomofiklodojeaaStoreMark
import Derived.Test.YtomofiklodojeaaLaw
namespace Go.Proofs.Ytomofiklodojeaa.lawExactStoreNew
open Go.ChangeShapes Go.WideShapes Go.ChangeAt Go.RowKit
set_option maxRecDepth 100000
set_option linter.unusedVariables false
set_option linter.unusedSimpArgs false

theorem box_at (w : World) (cs : Array Value) (T : TypeId) : ∀ j, (w.alloc (.cells cs T)).cell? ⟨w.heap.size, j, none⟩ = cs[j]? := fun j => by
  unfold World.cell?
  simp only [heap_alloc_new]
  simp
theorem box_keep {W W' : World} {b : Nat} {f : Nat → Option Value} (h : ∀ j, W.cell? ⟨b, j, none⟩ = f j) (hb : b < W.heap.size) (hB : Below W.heap.size W W') : ∀ j, W'.cell? ⟨b, j, none⟩ = f j := fun j => (hB.cell (p := ⟨b, j, none⟩) hb).trans (h j)
theorem box_kpx {W W' : World} {b : Nat} {ex : List Nat} {f : Nat → Option Value} (h : ∀ j, W.cell? ⟨b, j, none⟩ = f j) (hb : b < W.heap.size) (hB : Kp ex W W') (hx : ∀ k ∈ ex, ¬ k = b) : ∀ j, W'.cell? ⟨b, j, none⟩ = f j := fun j => (hB.cell hb (fun hm => hx _ hm rfl)).trans (h j)

def st0 (same : Bool) : St := ⟨List.replicate 64 ⟨#[]⟩, List.replicate 64 0, List.replicate 64 0, 1, [], 0, [], same⟩
def x0 (b0 b1 b2 : Nat) (G D : Option Addr) : SA := ⟨some ⟨b0, 0, none⟩, 64, 64, some ⟨b1, 0, none⟩, 64, 64, some ⟨b2, 0, none⟩, 64, 64, G, 0, 0, D, 0, 0⟩
theorem apart_ne {b1 b2 n1 c1 n2 c2 : Nat} (h : b1 ≠ b2) : Apart (.slice (some ⟨b1, 0, none⟩) n1 c1) (.slice (some ⟨b2, 0, none⟩) n2 c2) := fun k hk hm => by
  simp [exOf', Value.ownBlock] at hk hm
  omega
theorem apart_none {v : Value} {n c : Nat} : Apart v (.slice none n c) := fun k hk hm => by simp [exOf', Value.ownBlock] at hm
theorem rd_new {w W : World} {b0 b1 b2 : Nat} {G D : Option Addr} {same : Bool} (h0 : W.heap[b0]? = some (zerosS 64)) (h1 : W.heap[b1]? = some (zerosN 64)) (h2 : W.heap[b2]? = some (zerosN 64)) : SRd W (x0 b0 b1 b2 G D) (st0 same) := by
  obtain ⟨a1, a2, a3, a4⟩ := own_rdG (own_zerosS (base := 0) (Nat.zero_le _) (by omega) h0)
  obtain ⟨c1, c2, c3, c4⟩ := own_rdG (own_zerosN (base := 0) (Nat.zero_le _) (by omega) h1)
  obtain ⟨d1, d2, d3, d4⟩ := own_rdG (own_zerosN (base := 0) (Nat.zero_le _) (by omega) h2)
  exact ⟨a1, c1, d1, RdT.none_, RdT.none_, a2, c2, d2, rfl, rfl, a3, c3, d3, Nat.le_refl _, Nat.le_refl _, a4, c4, d4, (by show (0 : Nat) ≤ _; omega), (by show (0 : Nat) ≤ _; omega)⟩
theorem own_new {w W : World} {b0 b1 b2 : Nat} {same : Bool} (g0 : w.heap.size ≤ b0) (g1 : w.heap.size ≤ b1) (g2 : w.heap.size ≤ b2) (n1 : b0 ≠ b1) (n2 : b0 ≠ b2) (n3 : b1 ≠ b2) (h0 : W.heap[b0]? = some (zerosS 64)) (h1 : W.heap[b1]? = some (zerosN 64)) (h2 : W.heap[b2]? = some (zerosN 64)) : SOwn w.heap.size W (x0 b0 b1 b2 none none) (st0 same) :=
  ⟨own_zerosS (n := 64) g0 (by omega) h0, own_zerosN (n := 64) g1 (by omega) h1, own_zerosN (n := 64) g2 (by omega) h2, Own.nil, Own.nil, apart_ne n1, apart_ne n2, apart_none, apart_none, apart_ne n3, apart_none, apart_none, apart_none, apart_none, apart_none⟩

theorem rd_kp {W W' : World} {ex : List Nat} {a0 a1 a2 : Nat} {G D : Option Addr} {same : Bool} (h : SRd W (x0 a0 a1 a2 G D) (st0 same)) (hK : Kp ex W W') (he : ∀ k ∈ ex, ¬ k = a0 ∧ ¬ k = a1 ∧ ¬ k = a2) : SRd W' (x0 a0 a1 a2 G D) (st0 same) :=
  { h with
    rows := h.rows.kp hK (fun _ a ha hm => (he _ hm).1 (by cases ha; rfl))
    refs := h.refs.kp hK (fun _ a ha hm => (he _ hm).2.1 (by cases ha; rfl))
    last := h.last.kp hK (fun _ a ha hm => (he _ hm).2.2 (by cases ha; rfl))
    gone := RdT.none_
    dead := RdT.none_ }

set_option maxHeartbeats 4000000 in
theorem walk (same : Bool) (w : World) : Calls Try.prog 6 #[.bool same] w fun e w' => e = .returned (.bool true) ∧ Below w.heap.size w w' := by
  have EQ := Lib.hid (fun W b0 b1 b2 G D c0 c1 c2 G' D' (h : SRd W (x0 b0 b1 b2 G D) (st0 same)) (h' : SRd W (x0 c0 c1 c2 G' D') (st0 same)) => (eqStore_true W (x0 b0 b1 b2 G D) (x0 c0 c1 c2 G' D') (st0 same) h h' : Calls Try.prog 28 #[.agg #[.slice (some ⟨b0, 0, none⟩) 64 64, .slice (some ⟨b1, 0, none⟩) 64 64, .slice (some ⟨b2, 0, none⟩) 64 64, .int .i64 1, .slice G 0 0, .int .i64 0, .slice D 0 0, .bool same], .agg #[.slice (some ⟨c0, 0, none⟩) 64 64, .slice (some ⟨c1, 0, none⟩) 64 64, .slice (some ⟨c2, 0, none⟩) 64 64, .int .i64 1, .slice G' 0 0, .int .i64 0, .slice D' 0 0, .bool same]] W fun e w' => e = .returned (.bool true) ∧ Below W.heap.size W w'))
  have MK := Lib.hid (fun base W b0 b1 b2 (h : SOwn base W (x0 b0 b1 b2 none none) (st0 same)) => (markStore_any base W (x0 b0 b1 b2 none none) (st0 same) 1 0 same h (by show (64 : Nat) ≤ _; omega) (by show (64 : Nat) ≤ _; omega) (by show (64 : Nat) ≤ _; omega) (by show (0 : Nat) ≤ _; omega) (by show (0 : Nat) ≤ _; omega) : Calls Try.prog 29 #[.agg #[.slice (some ⟨b0, 0, none⟩) 64 64, .slice (some ⟨b1, 0, none⟩) 64 64, .slice (some ⟨b2, 0, none⟩) 64 64, .int .i64 1, .slice none 0 0, .int .i64 0, .slice none 0 0, .bool same], .int .i64 1] W fun e w' => e = .returned (.int .i64 193) ∧ SOwn base w' (x0 b0 b1 b2 none none) (marked (x0 b0 b1 b2 none none) (st0 same)) ∧ Kp (x0 b0 b1 b2 none none).ex W w'))
  have HL := Lib.hid (fun W b0 b1 b2 (h : SRd W (x0 b0 b1 b2 none none) (marked (x0 b0 b1 b2 none none) (st0 same))) => (heldStore_any W (x0 b0 b1 b2 none none) (st0 same) 1 0 same h (by show (64 : Nat) ≤ _; omega) (by show (64 : Nat) ≤ _; omega) (by show (64 : Nat) ≤ _; omega) (by show (0 : Nat) ≤ _; omega) (by show (0 : Nat) ≤ _; omega) : Calls Try.prog 30 #[.agg #[.slice (some ⟨b0, 0, none⟩) 64 64, .slice (some ⟨b1, 0, none⟩) 64 64, .slice (some ⟨b2, 0, none⟩) 64 64, .int .i64 1, .slice none 0 0, .int .i64 0, .slice none 0 0, .bool same], .int .i64 1] W fun e w' => e = .returned (.int .i64 193) ∧ Below W.heap.size W w'))
  go_enter Try.func6, Try.ntmps6
  go_wp2_with fail
  refine Calls.mono (specStoreNew_any same w) ?_
  rintro e w1 ⟨a0, a1, a2, G, D, rfl, _, _, _, ga0, ga1, ga2, ha0, ha1, ha2, hB, _⟩
  have X1 := Lib.hid (rd_new (w := w) (G := G) (D := D) (same := same) ha0 ha1 ha2)
  have LA := Lib.hid (show a0 < w1.heap.size ∧ a1 < w1.heap.size ∧ a2 < w1.heap.size from ⟨heap_lt ha0, heap_lt ha1, heap_lt ha2⟩)
  have HB1 := Lib.hid hB
  have hw1 := hB.size
  clear hB ha0 ha1 ha2 ga0 ga1 ga2
  go_wp2_with fail
  refine Calls.mono (storeNew_any same _) ?_
  rintro e w2 ⟨b0, b1, b2, G', D', rfl, n1, n2, n3, gb0, gb1, gb2, hb0, hb1, hb2, hB, hnil⟩
  obtain ⟨rfl, rfl⟩ := hnil rfl
  have hsz := hB.size
  have hs1 : w1.heap.size < w2.heap.size := by simp only [World.size_alloc] at hsz; omega
  have bx0 := box_keep (box_at w1 #[.slice (some ⟨a0, 0, none⟩) 64 64, .slice (some ⟨a1, 0, none⟩) 64 64, .slice (some ⟨a2, 0, none⟩) 64 64, .int .i64 1, .slice G 0 0, .int .i64 0, .slice D 0 0, .bool same] 47) (by simp) hB
  have Y2 := Lib.hid (own_new (same := same) gb0 gb1 gb2 n1 n2 n3 hb0 hb1 hb2)
  have LB := Lib.hid (show b0 < w2.heap.size ∧ b1 < w2.heap.size ∧ b2 < w2.heap.size from ⟨heap_lt hb0, heap_lt hb1, heap_lt hb2⟩)
  have GB := Lib.hid (show w1.heap.size < b0 ∧ w1.heap.size < b1 ∧ w1.heap.size < b2 by simp only [World.size_alloc] at gb0 gb1 gb2; omega)
  have X2 := Lib.hid ((X1.out.below (below_alloc (Below.refl _ _) _)).below hB)
  have HB2 := Lib.hid (below_below (below_alloc HB1.out _) hB)
  clear hB hb0 hb1 hb2 gb0 gb1 gb2 n1 n2 n3 hnil hsz X1 HB1
  have hBa := below_alloc (Below.refl w2.heap.size w2) (.cells #[.slice (some ⟨b0, 0, none⟩) 64 64, .slice (some ⟨b1, 0, none⟩) 64 64, .slice (some ⟨b2, 0, none⟩) 64 64, .int .i64 1, .slice none 0 0, .int .i64 0, .slice none 0 0, .bool same] 47)
  have X2a := Lib.hid (X2.out.below hBa)
  have Y2a := Lib.hid (Y2.out.below hBa)
  have HB2a := Lib.hid (below_below HB2.out hBa)
  have bx0a := box_keep bx0 hs1 hBa
  clear hBa X2 Y2 HB2
  go_wp2_with fail
  refine Calls.mono (EQ.out _ _ _ _ _ _ _ _ _ _ _ Y2a.out.rd X2a.out) ?_
  rintro e w3 ⟨rfl, hB⟩
  have hsz := hB.size
  simp only [World.size_alloc] at hsz
  have hs3 : w1.heap.size < w3.heap.size := by omega
  have ht3 : w2.heap.size < w3.heap.size := by omega
  have bx3 := box_keep bx0a (by simp; omega) hB
  have by3 := box_keep (box_at w2 #[.slice (some ⟨b0, 0, none⟩) 64 64, .slice (some ⟨b1, 0, none⟩) 64 64, .slice (some ⟨b2, 0, none⟩) 64 64, .int .i64 1, .slice none 0 0, .int .i64 0, .slice none 0 0, .bool same] 47) (by simp) hB
  have X3 := Lib.hid (X2a.out.below hB)
  have Y3 := Lib.hid (Y2a.out.below hB)
  have HB3 := Lib.hid (below_below HB2a.out hB)
  clear hB hsz bx0 bx0a X2a Y2a HB2a
  go_wp2_with fail
  refine Calls.mono (MK.out _ _ _ _ _ Y3.out) ?_
  rintro e w4 ⟨rfl, hO, hK⟩
  have hsz := hK.size
  have hex : ∀ k ∈ (x0 b0 b1 b2 none none).ex, k = b0 ∨ k = b1 ∨ k = b2 := fun k hk => by simpa [SA.ex, x0, exOf', Value.ownBlock] using hk
  have hs4 : w1.heap.size < w4.heap.size := by omega
  have ht4 : w2.heap.size < w4.heap.size := by omega
  have bx4 := box_kpx bx3 hs3 hK (fun k hk => by have := hex k hk; have := GB.out; omega)
  have by4 := box_kpx by3 ht3 hK (fun k hk => by have := hex k hk; have := LB.out; omega)
  have X4 := Lib.hid (rd_kp X3.out hK (fun k hk => by have := hex k hk; have := GB.out; have := LA.out; omega))
  have Y4 := Lib.hid hO
  have HB4 := Lib.hid (below_kp HB3.out hK (fun k hk => by have := hex k hk; have := GB.out; have := LA.out; omega))
  clear hO hK hsz hex bx3 by3 X3 Y3 HB3
  go_wp2_with fail
  refine Calls.mono (HL.out _ _ _ _ Y4.out.rd) ?_
  rintro e w5 ⟨rfl, hB⟩
  have hsz := hB.size
  have hs5 : w1.heap.size < w5.heap.size := by omega
  have ht5 : w2.heap.size < w5.heap.size := by omega
  have bx5 := box_keep bx4 hs4 hB
  have by5 := box_keep by4 ht4 hB
  have X5 := Lib.hid (X4.out.below hB)
  have Y5 := Lib.hid (Y4.out.below hB)
  have HB5 := Lib.hid (below_below HB4.out hB)
  clear hB hsz bx4 by4 X4 Y4 HB4
  go_wp2_with fail
  refine Calls.mono (storeNew_any same _) ?_
  rintro e w6 ⟨c0, c1, c2, G6, D6, rfl, n1, n2, n3, gc0, gc1, gc2, hc0, hc1, hc2, hB, hnil⟩
  have hsz := hB.size
  have hs6 : w1.heap.size < w6.heap.size := by omega
  have ht6 : w2.heap.size < w6.heap.size := by omega
  have bx6 := box_keep bx5 hs5 hB
  have by6 := box_keep by5 ht5 hB
  have X6 := Lib.hid (X5.out.below hB)
  have Y6 := Lib.hid (Y5.out.below hB)
  have Z6 := Lib.hid (rd_new (w := w) (G := G6) (D := D6) (same := same) hc0 hc1 hc2)
  have HB6 := Lib.hid (below_below HB5.out hB)
  clear hB hsz bx5 by5 X5 Y5 HB5 hc0 hc1 hc2 gc0 gc1 gc2 n1 n2 n3 hnil
  have hBa := below_alloc (Below.refl w6.heap.size w6) (.cells #[.slice (some ⟨c0, 0, none⟩) 64 64, .slice (some ⟨c1, 0, none⟩) 64 64, .slice (some ⟨c2, 0, none⟩) 64 64, .int .i64 1, .slice G6 0 0, .int .i64 0, .slice D6 0 0, .bool same] 47)
  have X6a := Lib.hid (X6.out.below hBa)
  have Y6a := Lib.hid (Y6.out.below hBa)
  have Z6a := Lib.hid (Z6.out.below hBa)
  have HB6a := Lib.hid (below_below HB6.out hBa)
  have bx6a := box_keep bx6 hs6 hBa
  have by6a := box_keep by6 ht6 hBa
  clear hBa X6 Y6 Z6 HB6
  go_wp2_with fail
  refine Calls.mono (EQ.out _ _ _ _ _ _ _ _ _ _ _ Z6a.out X6a.out) ?_
  rintro e w7 ⟨rfl, hB⟩
  have hsz := hB.size
  simp only [World.size_alloc] at hsz
  have hs7 : w1.heap.size < w7.heap.size := by omega
  have ht7 : w2.heap.size < w7.heap.size := by omega
  have bx7 := box_keep bx6a (by simp; omega) hB
  have by7 := box_keep by6a (by simp; omega) hB
  have X7 := Lib.hid (X6a.out.below hB)
  have Y7 := Lib.hid (Y6a.out.below hB)
  have HB7 := Lib.hid (below_below HB6a.out hB)
  clear hB hsz bx6 by6 bx6a by6a X6a Y6a Z6a HB6a
  go_wp2_with fail
  refine Calls.mono (HL.out _ _ _ _ Y7.out.rd) ?_
  rintro e w8 ⟨rfl, hB⟩
  have hsz := hB.size
  have hs8 : w1.heap.size < w8.heap.size := by omega
  have ht8 : w2.heap.size < w8.heap.size := by omega
  have bx8 := box_keep bx7 hs7 hB
  have by8 := box_keep by7 ht7 hB
  have X8 := Lib.hid (X7.out.below hB)
  have Y8 := Lib.hid (Y7.out.below hB)
  have HB8 := Lib.hid (below_below HB7.out hB)
  clear hB hsz bx7 by7 X7 Y7 HB7
  go_wp2_with fail
  go_ret
  exact ⟨rfl, HB8.out⟩

set_option maxRecDepth 100000 in
theorem lifted (os : Os) (started : os.Started) (H : Type) (enc : TypeId × Value → H) :
    ReturnsInHanded {} Try.checked os 6 .any (Rows.fnExactStoreNewSpec.pre6 enc Try.prog Try.f6 Rows.fnExactStoreNewRow.domain false) (Rows.fnExactStoreNewSpec.post enc Try.prog Try.f6 false true false false) := by
  refine returnsInHanded_of_change (C := Try.checked) own started (by kernel_rfl) Try.func6
    (ChangeSpec.witness6 (enc := enc) (C := Try.checked) false ⟨#[], #[.bool false], []⟩ 8 (by kernel_rfl) (by kernel_rfl) (by kernel_rfl) (by kernel_rfl)) ?_
  intro W base args ds gs before hval0 hW hcnd _
  have hval : ∀ (j : Nat) t v, Try.f6.params[j]? = some t → args[j]? = some v → Value.okWide Try.prog W .any base t v := hval0
  have hW' := hW
  obtain ⟨p, q, hA, hV, rfl, hfz, hnd⟩ := hW
  obtain ⟨rfl, rfl⟩ := trodVars_none hV
  have hA0 : DataW.TrodAll enc Try.prog W 0 (fun _ => true) true Try.f6.params.toList args.toList ds p := hA
  rw [Try.params6] at hA0 hval
  obtain ⟨v0, vs0, d0, ds0, p0, q0, hargs, rfl, rfl, h0, r0⟩ := trodAll_cons hA0
  obtain ⟨rfl, rfl, rfl⟩ := trodAll_nil r0
  obtain rfl : args = #[v0] := by cases args; simp_all
  obtain ⟨b, rfl, _, _⟩ := open_bool Try.underlying4 (hval 0 4 v0 rfl rfl) h0
  refine (walk b W).mono fun e W' ⟨he, bel⟩ => ?_
  subst he
  exact ⟨_, rfl, law_post rfl (by kernel_rfl) (params_ok (by kernel_rfl)) hW' rfl rfl rfl bel⟩

theorem proved : Rows.FnExactStoreNewSaid :=
  OpenClaim.holds_of_wide 6 Try.f6 rfl rfl rfl rfl rfl rfl rfl ⟨rfl, rfl, rfl, rfl, rfl⟩ rfl rfl rfl rfl rfl (by kernel_rfl) Try.func6 (by kernel_rfl)
    (of_decide_eq_true (by kernel_rfl)) (by unfold Func.isWrapper; first | (rw [if_pos (by decide +kernel)]; kernel_rfl) | (rw [if_neg (by decide +kernel)]; exact ⟨rfl, rfl⟩))
    (fun os started H enc _ => lifted os started H enc)

end Go.Proofs.Ytomofiklodojeaa.lawExactStoreNew
