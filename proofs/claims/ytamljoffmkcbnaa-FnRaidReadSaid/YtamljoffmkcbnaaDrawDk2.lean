/- A disk drawn: the reference's l91Disk. -/
import Derived.Test.YtamljoffmkcbnaaDrawDk
namespace Go.Proofs.Ytamljoffmkcbnaa
open Go.RowKit Go.Sort
set_option maxRecDepth 100000
set_option linter.unusedVariables false
set_option linter.unusedSimpArgs false

def PickV (w : World) (rb p m : Nat) (v : Value) (w' : World) : Prop := ∃ k : Nat, v = .int .i64 (k : Int) ∧ k < m ∧ Rs w' rb (p + 1) ∧ Kp [rb] w w'
theorem pickV (w : World) (rb p m : Nat) (h : Rs w rb p) (hp : p ≤ 1000000000) (hm : m ≤ 1000000000) (h1 : 1 ≤ m) : Calls Try.prog 62 #[.pointer (some ⟨rb, 0, none⟩), .int .i64 (m : Int)] w fun e w' => ∃ v, e = .returned v ∧ PickV w rb p m v w' :=
  (pick_nat w rb p m h hp (by omega) (by omega)).mono fun e w' ⟨k, he, hk, hr, hkp⟩ => ⟨_, he, k, rfl, by simpa using hk, hr, hkp⟩
def StrV (n d : Nat) (w : World) (rb p : Nat) (v : Value) (w' : World) : Prop := ∃ (s : ByteArray) (q : Nat), v = .string s ∧ s.size ≤ n ∧ Rs w' rb (p + q) ∧ q ≤ d ∧ Kp [rb] w w'
theorem textV (w : World) (rb p n : Nat) (h : Rs w rb p) (hp : p ≤ 1000000) (hn : n ≤ 1000) : Calls Try.prog 63 #[.pointer (some ⟨rb, 0, none⟩), .int .i64 (n : Int)] w fun e w' => ∃ v, e = .returned v ∧ StrV n (2 + 3 * n) w rb p v w' :=
  (l91Text_any w rb p n h hp hn).mono fun e w' ⟨s, q, he, h1, h2, h3, h4⟩ => ⟨_, he, s, q, rfl, h1, h2, h3, h4⟩
theorem manyV (W : World) (z : Int) (h0 : 0 ≤ z) (h1 : z ≤ 1000) : Calls Try.prog 81 #[.string ⟨#[121]⟩, .int .i64 z] W fun e w' => ∃ v, e = .returned v ∧ ((∃ t : ByteArray, v = .string t ∧ t.size ≤ 1000) ∧ W = w') := by
  obtain ⟨a, rfl⟩ := Int.eq_ofNat_of_zero_le h0
  refine (l6Many_any ⟨#[121]⟩ a W (by decide) (by omega)).mono ?_
  rintro e w' ⟨⟨t, he, ht⟩, hw⟩
  exact ⟨_, he, ⟨t, rfl, by rw [ht]; show a * 1 ≤ 1000; omega⟩, hw⟩
theorem dk_end {w W : World} {rb B q n cb g c p k : Nat} {gn : Bool} {ws : List Wt} (h : LD w rb B q n cb g c gn ws W) (hq : q = p + k) (hk : k ≤ 2000) :
    DkD 2000 w rb p (.returned (.agg #[.slice (some ⟨cb, 0, none⟩) 64 64, .slice (some ⟨g, 0, none⟩) n c, .bool gn])) (((W.setCell ⟨w.heap.size, 0, none⟩ (.slice (some ⟨cb, 0, none⟩) 64 64)).setCell ⟨w.heap.size, 1, none⟩ (.slice (some ⟨g, 0, none⟩) n c)).setCell ⟨w.heap.size, 2, none⟩ (.bool gn)) := by
  obtain ⟨⟨d, hd⟩, _⟩ := h.rd
  have K := kp_set3 w.heap.size W (.slice (some ⟨cb, 0, none⟩) 64 64) (.slice (some ⟨g, 0, none⟩) n c) (.bool gn)
  have n1 : cb ≠ w.heap.size := fun e => absurd (h.st.tag.one (e ▸ Tag.box h.res)) (by decide)
  have n2 : g ≠ w.heap.size := own_ne h.own h.res (by decide)
  have hrl := h.rl
  subst hq
  exact ⟨_, d, k, rfl, hd.kp K (fun a ha hm => by cases ha; simp at hm; exact n1 hm) (fun a ha hm => by cases ha; simp at hm; exact n2 hm), fun a ha => by cases ha; exact h.gc, fun a ha => by cases ha; exact own_from h.own, h.rs.kp K (by simp; omega), hk, h.kp.trans' K (fun i hi => by simp at hi; right; omega)⟩
theorem dk_end1 {w W : World} {rb B q n cb g c p k : Nat} {gn : Bool} {ws : List Wt} (h : LD w rb B q n cb g c gn ws W) (hq : q = p + k) (hk : k ≤ 2000) :
    DkD 2000 w rb p (.returned (.agg #[.slice (some ⟨cb, 1, none⟩) 63 63, .slice (some ⟨g, 0, none⟩) n c, .bool gn])) ((((W.setCell ⟨B, 0, none⟩ (.slice (some ⟨cb, 1, none⟩) 63 63)).setCell ⟨w.heap.size, 0, none⟩ (.slice (some ⟨cb, 1, none⟩) 63 63)).setCell ⟨w.heap.size, 1, none⟩ (.slice (some ⟨g, 0, none⟩) n c)).setCell ⟨w.heap.size, 2, none⟩ (.bool gn)) := by
  obtain ⟨_, ⟨d, hd⟩⟩ := h.rd
  have K : Kp [B, w.heap.size] W ((((W.setCell ⟨B, 0, none⟩ (.slice (some ⟨cb, 1, none⟩) 63 63)).setCell ⟨w.heap.size, 0, none⟩ (.slice (some ⟨cb, 1, none⟩) 63 63)).setCell ⟨w.heap.size, 1, none⟩ (.slice (some ⟨g, 0, none⟩) n c)).setCell ⟨w.heap.size, 2, none⟩ (.bool gn)) := ((((Kp.refl [B, w.heap.size] W).setCell (.inl (by simp)) _).setCell (.inl (by simp)) _).setCell (.inl (by simp)) _).setCell (.inl (by simp)) _
  have n1 : cb ≠ w.heap.size := fun e => absurd (h.st.tag.one (e ▸ Tag.box h.res)) (by decide)
  have n2 : g ≠ w.heap.size := own_ne h.own h.res (by decide)
  have n3 : cb ≠ B := fun e => absurd (h.st.tag.one (e ▸ Tag.box h.box)) (by decide)
  have n4 : g ≠ B := own_ne h.own h.box (by decide)
  have hrl := h.rl
  have hgB := h.gB
  subst hq
  exact ⟨_, d, k, rfl, hd.kp K (fun a ha hm => by cases ha; simp at hm; omega) (fun a ha hm => by cases ha; simp at hm; omega), fun a ha => by cases ha; exact h.gc, fun a ha => by cases ha; exact own_from h.own, h.rs.kp K (by simp; omega), hk, h.kp.trans' K (fun i hi => by simp at hi; right; omega)⟩

set_option maxHeartbeats 20000000 in
theorem l91Disk_any (w : World) (rb p : Nat) (h : Rs w rb p) (hp : p ≤ 900000) : Calls Try.prog 70 #[.pointer (some ⟨rb, 0, none⟩)] w (DkD 2000 w rb p) := by
  have hr := h
  have hl := h.lt
  clear h
  have NP := Lib.hid (And.intro (show (Try.f62.name == "runtime.NumGoroutine") = false by kernel_rfl) (show Try.f62.body.isNone = false by kernel_rfl))
  have NT := Lib.hid (And.intro (show (Try.f63.name == "runtime.NumGoroutine") = false by kernel_rfl) (show Try.f63.body.isNone = false by kernel_rfl))
  have RX := box_new w #[.slice none 0 0, .slice none 0 0, .bool false] 51
  go_enter Try.func70, Try.ntmps70
  go_wp2_with fail
  refine Calls.mono (pick_nat _ _ _ _ (Rs.alloc hr _) (by omega) (by omega) (by omega)) ?_
  rintro e w1 ⟨k0, rfl, hk0, hr1, hk1⟩
  have RX1 := RX.kp hk1 (by simp; omega)
  have K1 := ((Kp.refl [rb] w).alloc (.cells #[.slice none 0 0, .slice none 0 0, .bool false] 51)).trans hk1
  have hs1 := RX1.lt
  have HR1 := Lib.hid hr1
  have HX1 := Lib.hid RX1
  have HK1 := Lib.hid K1
  clear hr hr1 hk1 RX RX1 K1 hk0
  by_cases hz : (k0 : Int) = 0
  · have hz' : ((k0 : Int) == 0) = true := by simpa using hz
    clear hz
    go_wp2_with fail
    refine Calls.mono (diskLose_any _) ?_
    rintro e w2 ⟨⟨xC, xnC, xcC, xW, xnW, xcW, xg⟩, he, hrd, hdi, hg, hB⟩
    unfold DA.v at he
    dsimp only at he hg
    subst he
    subst hg
    have BX2 := HX1.out.below hB
    have n1 := BX2.cell
    have n2 := BX2.froz
    have n3 := BX2.lt
    have HE := Lib.hid (show DkD 2000 w rb p (.returned (.agg #[.slice xC xnC xcC, .slice xW xnW xcW, .bool true])) (((w2.setCell ⟨w.heap.size, 0, none⟩ (.slice xC xnC xcC)).setCell ⟨w.heap.size, 1, none⟩ (.slice xW xnW xcW)).setCell ⟨w.heap.size, 2, none⟩ (.bool true)) by
      have K := kp_set3 w.heap.size w2 (.slice xC xnC xcC) (.slice xW xnW xcW) (.bool true)
      obtain ⟨cb, hC, hcb, _⟩ := hdi.c
      have htg := hdi.tg
      dsimp only at hC htg
      subst hC
      refine ⟨⟨some ⟨cb, 0, none⟩, xnC, xcC, xW, xnW, xcW, true⟩, _, 1, rfl, hrd.kp K (fun a ha hm => by cases ha; simp at hm; omega) (fun a ha hm => by have := (htg a ha).1; simp at hm; omega), fun a ha => by cases ha; dsimp only; omega, fun a ha => by have := (htg a ha).1; omega, (HR1.out.below hB).kp K (by simp; omega), by omega, (HK1.out.trans ((Kp.of_below hB).all [rb])).trans' K (fun i hi => by simp at hi; right; omega)⟩)
    clear hrd hdi hB BX2
    go_wp2_with fail
    refine bodyPost_ret (v := .agg #[.slice xC xnC xcC, .slice xW xnW xcW, .bool true]) (by simp [results, Try.results70, go_sem, n1, n3]) rfl ?_
    exact HE.out
  have hz' : ((k0 : Int) == 0) = false := by simpa using hz
  clear hz
  go_wp2_with fail
  refine Calls.mono (specDiskNewO_any _) ?_
  rintro e w2 ⟨cb, g, rfl, hst, hcb, hown, hB⟩
  have L2 := Lib.hid (show LD w rb w2.heap.size (p + 1) 0 cb g 0 false [] (w2.alloc (.cells #[.slice (some ⟨cb, 0, none⟩) 64 64, .slice (some ⟨g, 0, none⟩) 0 0, .bool false] 51)) from by
    have hBa := below_alloc (Below.refl w2.heap.size w2) (.cells #[.slice (some ⟨cb, 0, none⟩) 64 64, .slice (some ⟨g, 0, none⟩) 0 0, .bool false] 51)
    have hsz := hB.size
    exact ⟨box_new w2 _ _, (HX1.out.below hB).below hBa, hst.keep (hBa.block cb hst.tag.lt), (hown.more (by omega)).below hBa, rfl, fun y hy => (by cases hy), (HR1.out.below hB).below hBa, (HK1.out.trans ((Kp.of_below hB).all [rb])).trans ((Kp.of_below hBa).all [rb]), by omega, by omega, hl⟩)
  clear hst hown hB HR1 HX1 HK1
  go_wp2_with fail
  refine Calls.mono (pick_nat _ _ _ _ L2.out.rs (by omega) (by omega) (by omega)) ?_
  rintro e w3 ⟨k3, rfl, hk3, hr3, hkk3⟩
  have L3 := Lib.hid (L2.out.pick hr3 hkk3)
  have hk38 : k3 < 8 := by simpa using hk3
  clear hr3 hkk3 hk3 L2
  go_wp2_with fail
  go_loopw [4] (fun i wr => ∃ (k q : Nat), i = .int .i64 k ∧ q + 40 * k ≤ p + 400 ∧ p ≤ q ∧ Hid (LD w rb w2.heap.size q 0 cb g 0 false [] wr)) (fun i _ => (intOf i).toNat)
  case atStart => exact ⟨k3, p + 1 + 1, rfl, by omega, by omega, L3⟩
  case round =>
    clear L3
    obtain ⟨k, q, rfl, hq, hpq, HL⟩ := hrel
    have bx := HL.out.box.cell
    have bl := HL.out.box.lt
    by_cases hlt : 0 < k
    · have k2 : IntKind.i64.wrap ((k : Int) - 1) = (k : Int) - 1 := IntWalk.i64_in _ (by omega)
      go_wp2_with fail
      go_region_law (first
        | (refine step_callR (f := 63) (vs := #[.pointer (some ⟨rb, 0, none⟩), .int .i64 9]) (R := StrV 9 29 w4 rb (q + 1)) Try.func63 NT.out.1 NT.out.2 rfl rfl (by simp [Act.eval, Act.put]) (textV _ rb (q + 1) 9 L4.out.rs (by omega) (by omega)) ?_; rintro v5 w5 ⟨s5, q5, rfl, hs5, hr5, hq5, hk5⟩; have L5 := Lib.hid (L4.out.pick hr5 hk5); have bx5 := L5.out.box.cell; have bl5 := L5.out.box.lt; have bf5 := L5.out.box.froz; clear hr5 hk5; obtain ⟨s0, hs0, _, hf0⟩ := L5.out.st.cell j4 hj4)
        | (refine step_callR (f := 62) (vs := #[.pointer (some ⟨rb, 0, none⟩), .int .i64 64]) (R := PickV wr.drew rb q 64) Try.func62 NP.out.1 NP.out.2 rfl rfl (by simp [Act.eval, Act.put]) (pickV _ rb q 64 HL.out.drew.rs (by omega) (by omega) (by omega)) ?_; rintro v4 w4 ⟨j4, rfl, hj4, hr4, hk4⟩; have L4 := Lib.hid (HL.out.drew.pick hr4 hk4); have bx4 := L4.out.box.cell; have bl4 := L4.out.box.lt; have hjI4 : (j4 : Int) < 64 := (by omega); clear hr4 hk4))
      all_goals
        have LN := Lib.hid (L5.out.setS hj4 (s := s5) (by omega))
        go_wp2_with fail
        go_roundw
        (case rel => exact ⟨k - 1, q + 1 + q5, by go_num, by omega, by omega, LN⟩)
        (case measure => simp [intOf]; omega)
    · obtain rfl : k = 0 := by omega
      go_wp2_with fail
      refine Calls.mono (pick_nat _ _ _ _ HL.out.rs (by omega) (by omega) (by omega)) ?_
      rintro e w3 ⟨k3, rfl, hk3, hr3, hkk3⟩
      have L3 := Lib.hid (HL.out.pick hr3 hkk3)
      have hk37 : k3 < 7 := by simpa using hk3
      clear hr3 hkk3 hk3 HL bx bl
      go_wp2_with fail
      go_loopw [5] (fun i wr => ∃ (k q n g c : Nat) (ws : List Wt), i = .int .i64 k ∧ q + 40 * k ≤ p + 800 ∧ p ≤ q ∧ n + k ≤ 7 ∧ Hid (LD w rb w2.heap.size q n cb g c false ws wr)) (fun i _ => (intOf i).toNat)
      case atStart => exact ⟨k3, q + 1, 0, g, 0, [], rfl, by omega, by omega, by omega, L3⟩
      case round =>
        clear L3
        obtain ⟨k, q, n, g, c, ws, rfl, hq, hpq, hnk, HL⟩ := hrel
        have bx := HL.out.box.cell
        have bl := HL.out.box.lt
        by_cases hlt : 0 < k
        · have k2 : IntKind.i64.wrap ((k : Int) - 1) = (k : Int) - 1 := IntWalk.i64_in _ (by omega)
          have HLN := Lib.hid HL.out.len
          have KA := Lib.hid (And.intro (show (ws.length + 1) * 24 ≤ 140737488355328 by have := HLN.out; omega) (show ws.length + 1 ≤ maxLen by have := HLN.out; unfold maxLen; omega))
          go_wp2_with fail
          go_region_law (first
            | (refine step_appR (base := w.heap.size) (xs := ws) (ys := ([⟨(j4 : Int), s5⟩] : List Wt)) elW rfl (.tmp 31) (.tmp 37) (by rfl) (by rfl) (L5.out.alloc (.cells #[.int .i64 (j4 : Int), .string s5] 75)).own (by rfl) (by rfl) (rd_oneWAt w5 (j4 : Int) s5 rfl) oneW KA.out.1 KA.out.2 (L5.out.alloc (.cells #[.int .i64 (j4 : Int), .string s5] 75)).kp.size ?_; intro v6 w6 ho6 hb6 hg6 ha6; obtain ⟨g6, c6, hv6⟩ := own_block ho6 (by simp); rw [show (ws ++ [(⟨(j4 : Int), s5⟩ : Wt)]).length = n + 1 by simp [HLN.out]] at hv6; subst hv6; have BX6 := (L5.out.alloc (.cells #[.int .i64 (j4 : Int), .string s5] 75)).box.grownT (L5.out.alloc (.cells #[.int .i64 (j4 : Int), .string s5] 75)).own hg6 (by decide); have bx6 := BX6.cell; have bf6 := BX6.froz; have bl6 := BX6.lt; have LN := Lib.hid ((L5.out.alloc (.cells #[.int .i64 (j4 : Int), .string s5] 75)).app rfl (by dsimp only; omega) ho6 hg6); clear ho6 hb6 hg6 ha6 BX6)
            | (refine step_callR (f := 63) (vs := #[.pointer (some ⟨rb, 0, none⟩), .int .i64 9]) (R := StrV 9 29 w4 rb (q + 1)) Try.func63 NT.out.1 NT.out.2 rfl rfl (by simp [Act.eval, Act.put]) (textV _ rb (q + 1) 9 L4.out.rs (by omega) (by omega)) ?_; rintro v5 w5 ⟨s5, q5, rfl, hs5, hr5, hq5, hk5⟩; have L5 := Lib.hid (L4.out.pick hr5 hk5); have bx5 := L5.out.box.cell; have bl5 := L5.out.box.lt; have bf5 := L5.out.box.froz; clear hr5 hk5)
            | (refine step_callR (f := 62) (vs := #[.pointer (some ⟨rb, 0, none⟩), .int .i64 14]) (R := PickV wr.drew rb q 14) Try.func62 NP.out.1 NP.out.2 rfl rfl (by simp [Act.eval, Act.put]) (pickV _ rb q 14 HL.out.drew.rs (by omega) (by omega) (by omega)) ?_; rintro v4 w4 ⟨j4, rfl, hj4, hr4, hk4⟩; have L4 := Lib.hid (HL.out.drew.pick hr4 hk4); have bx4 := L4.out.box.cell; have bl4 := L4.out.box.lt; have hjI4 : (j4 : Int) < 14 := (by omega); clear hr4 hk4))
          all_goals
            go_wp2_with fail
            go_roundw
            (case rel => exact ⟨k - 1, q + 1 + q5, n + 1, g6, c6, _, by go_num, by omega, by omega, by omega, LN⟩)
            (case measure => simp [intOf]; omega)
        · obtain rfl : k = 0 := by omega
          go_wp2_with fail
          refine Calls.mono (pick_nat _ _ _ _ HL.out.rs (by omega) (by omega) (by omega)) ?_
          rintro e w4 ⟨k4, rfl, hk4, hr4, hkk4⟩
          have L4 := Lib.hid (HL.out.pick hr4 hkk4)
          have hk43 : (k4 : Int) < 30 := by simp at hk4; omega
          have hbd := L4.out.bd
          have hbd1 := hbd.1
          have hbd2 := hbd.2
          have bx4 := L4.out.box.cell
          have bf4 := L4.out.box.froz
          have bl4 := L4.out.box.lt
          clear hr4 hkk4 hk4 HL bx bl hbd
          by_cases m0 : (k4 : Int) = 0
          · have e0 : ((k4 : Int) == 0) = true := by simpa using m0
            clear m0
            have HE := Lib.hid (dk_end1 (p := p) (k := q + 1 - p) L4.out (by omega) (by omega))
            have n1 := L4.out.res.cell
            have n2 := L4.out.res.froz
            have n3 := L4.out.res.lt
            have hgB := L4.out.gB
            have hgB2 : ¬ w.heap.size = w2.heap.size := by omega
            have hgB3 : ¬ w2.heap.size = w.heap.size := by omega
            go_wp2_with fail
            refine bodyPost_ret (v := .agg #[.slice (some ⟨cb, 1, none⟩) 63 63, .slice (some ⟨g, 0, none⟩) n c, .bool false]) (by simp [results, Try.results70, go_sem, n1, n3, bx4, bl4, hgB2, hgB3]) rfl ?_
            exact HE.out
          have e0 : ((k4 : Int) == 0) = false := by simpa using m0
          clear m0
          by_cases m1 : (k4 : Int) = 1
          · have e1 : ((k4 : Int) == 1) = true := by simpa using m1
            clear m1
            have L5 := Lib.hid (L4.out.setG true)
            have n1 := L4.out.res.cell
            have n2 := L4.out.res.froz
            have n3 := L4.out.res.lt
            have HE := Lib.hid (dk_end (p := p) (k := q + 1 - p) L5.out (by omega) (by omega))
            have hgB := L4.out.gB
            have hgB2 : ¬ w.heap.size = w2.heap.size := by omega
            have hgB3 : ¬ w2.heap.size = w.heap.size := by omega
            go_wp2_with fail
            refine bodyPost_ret (v := .agg #[.slice (some ⟨cb, 0, none⟩) 64 64, .slice (some ⟨g, 0, none⟩) n c, .bool true]) (by simp [results, Try.results70, go_sem, n1, n3, bx4, bl4, hgB2, hgB3]) rfl ?_
            exact HE.out
          have e1 : ((k4 : Int) == 1) = false := by simpa using m1
          clear m1
          have HLN := Lib.hid L4.out.len
          have KA := Lib.hid (And.intro (show (ws.length + 1) * 24 ≤ 140737488355328 by have := HLN.out; omega) (show ws.length + 1 ≤ maxLen by have := HLN.out; unfold maxLen; omega))
          by_cases m2 : (k4 : Int) = 2
          · have e2 : ((k4 : Int) == 2) = true := by simpa using m2
            clear m2
            go_wp2_with fail
            go_region_law (first
              | (refine step_appR (base := w.heap.size) (xs := ws) (ys := ([⟨z5, ⟨#[119]⟩⟩] : List Wt)) elW rfl (.tmp 54) (.tmp 61) (by rfl) (by rfl) (by first | exact (L5.out.alloc _).own | exact ((L5.out.alloc _).alloc _).own) (by rfl) (by rfl) (rd_oneWAt _ z5 ⟨#[119]⟩ (by simp)) oneW KA.out.1 KA.out.2 (by first | exact (L5.out.alloc _).kp.size | exact ((L5.out.alloc _).alloc _).kp.size) ?_; intro v6 w6 ho6 hb6 hg6 ha6; obtain ⟨g6, c6, hv6⟩ := own_block ho6 (by simp); rw [show (ws ++ [(⟨z5, ⟨#[119]⟩⟩ : Wt)]).length = n + 1 by simp [HLN.out]] at hv6; subst hv6; have LX : ∃ Wx, LD w rb w2.heap.size (q + 1 + 1) n cb g c false ws Wx ∧ Wx.grownBy w6 (Value.ownBlock (.slice (some ⟨g, 0, none⟩) n c)) := (by first | exact ⟨_, L5.out.alloc _, hg6⟩ | exact ⟨_, (L5.out.alloc _).alloc _, hg6⟩); obtain ⟨Wx, LX, hgx⟩ := LX; have BX6 := LX.box.grownT LX.own hgx (by decide); have bx6 := BX6.cell; have bf6 := BX6.froz; have bl6 := BX6.lt; have LN := Lib.hid (LX.app rfl (y := ⟨z5, ⟨#[119]⟩⟩) (by show (1 : Nat) ≤ 1000; omega) ho6 hgx); clear ho6 hb6 hg6 ha6 BX6 LX hgx)
              | (refine step_callR (f := 62) (vs := #[.pointer (some ⟨rb, 0, none⟩), .int .i64 2]) (R := PickV _ rb (q + 1) 2) Try.func62 NP.out.1 NP.out.2 rfl rfl (by simp [Act.eval, Act.put]) (pickV _ rb (q + 1) 2 (by first | exact L4.out.drew.rs | exact (L4.out.alloc _).drew.rs) (by omega) (by omega) (by omega)) ?_; rintro v5 w5 ⟨j5, rfl, hj5, hr5, hk5⟩; have L5 : Hid (LD w rb w2.heap.size (q + 1 + 1) n cb g c false ws w5) := Lib.hid (by first | exact L4.out.drew.pick hr5 hk5 | exact (L4.out.alloc _).drew.pick hr5 hk5); have bx5 := L5.out.box.cell; have bl5 := L5.out.box.lt; have hjI5 : (j5 : Int) < 2 := (by omega); obtain ⟨z5, hzz5⟩ := lit_int [-1, 64] j5 hj5; simp only [List.map] at hzz5; have hrl := L5.out.rl; have hwl := L4.out.kp.size; (try (have hlit5 : w5.cell? ⟨w4.heap.size, j5, none⟩ = some (.int .i64 z5) := (((show Kp [rb] (w4.alloc (.cells #[.int .i64 (-1), .int .i64 64] 3)) w5 from ⟨hk5.os, hk5.tape, hk5.output, hk5.size, hk5.block⟩).cell (b := w4.heap.size) (o := j5) (box_new w4 _ _).lt (by simp; omega)).trans (((box_new w4 _ _).cell j5).trans hzz5)))); clear hr5 hk5 hj5))
            all_goals
              have n1 := LN.out.res.cell
              have n2 := LN.out.res.froz
              have n3 := LN.out.res.lt
              have b1 := LN.out.box.cell
              have b2 := LN.out.box.lt
              have HE := Lib.hid (dk_end (p := p) (k := q + 1 + 1 - p) LN.out (by omega) (by omega))
              have hgB := LN.out.gB
              have hgB2 : ¬ w.heap.size = w2.heap.size := by omega
              have hgB3 : ¬ w2.heap.size = w.heap.size := by omega
              generalize hWW : w6.setCell ⟨w2.heap.size, 1, none⟩ (.slice (some ⟨g6, 0, none⟩) (n + 1) c6) = WW at *
              go_wp2_with fail
              refine bodyPost_ret (v := .agg #[.slice (some ⟨cb, 0, none⟩) 64 64, .slice (some ⟨g6, 0, none⟩) (n + 1) c6, .bool false]) (by simp [results, Try.results70, go_sem, n1, n3, b1, b2, hgB2, hgB3]) rfl ?_
              exact HE.out
          have e2 : ((k4 : Int) == 2) = false := by simpa using m2
          clear m2
          by_cases m3 : (k4 : Int) = 3
          · have e3 : ((k4 : Int) == 3) = true := by simpa using m3
            clear m3
            have NY := Lib.hid (And.intro (show (Try.f81.name == "runtime.NumGoroutine") = false by kernel_rfl) (show Try.f81.body.isNone = false by kernel_rfl))
            go_wp2_with fail
            go_region_law (first
              | (refine step_callR (f := 81) (vs := #[.string ⟨#[121]⟩, .int .i64 ((200 : Int) + (j5 : Int))]) (R := fun v w' => (∃ t : ByteArray, v = .string t ∧ t.size ≤ 1000) ∧ w5 = w') Try.func81 NY.out.1 NY.out.2 rfl rfl (by simp [Act.eval, Act.put]) (manyV _ _ (by omega) (by omega)) ?_; rintro v6 w6 ⟨⟨s6, rfl, hs6⟩, rfl⟩; obtain ⟨s0, hs0, _, hf0⟩ := L5.out.st.cell 3 (by omega); have bx6 := L5.out.box.cell)
              | (refine step_callR (f := 62) (vs := #[.pointer (some ⟨rb, 0, none⟩), .int .i64 2]) (R := PickV w4.drew rb (q + 1) 2) Try.func62 NP.out.1 NP.out.2 rfl rfl (by simp [Act.eval, Act.put]) (pickV _ rb (q + 1) 2 L4.out.drew.rs (by omega) (by omega) (by omega)) ?_; rintro v5 w5 ⟨j5, rfl, hj5, hr5, hk5⟩; have L5 := Lib.hid (L4.out.drew.pick hr5 hk5); have bx5 := L5.out.box.cell; have bl5 := L5.out.box.lt; have hjI5 : (j5 : Int) < 2 := (by omega); clear hr5 hk5; have kw5 : IntKind.i64.wrap ((200 : Int) + (j5 : Int)) = (200 : Int) + (j5 : Int) := IntWalk.i64_in _ (by omega)))
            all_goals
              have LN := Lib.hid (L5.out.setS (j := 3) (by omega) (s := s6) (by omega))
              have n1 := LN.out.res.cell
              have n2 := LN.out.res.froz
              have n3 := LN.out.res.lt
              have b1 := LN.out.box.cell
              have b2 := LN.out.box.lt
              have HE := Lib.hid (dk_end (p := p) (k := q + 1 + 1 - p) LN.out (by omega) (by omega))
              have hgB := LN.out.gB
              have hgB2 : ¬ w.heap.size = w2.heap.size := by omega
              have hgB3 : ¬ w2.heap.size = w.heap.size := by omega
              generalize hWW : w5.setCell ⟨cb, 3, none⟩ (.string s6) = WW at *
              go_wp2_with fail
              refine bodyPost_ret (v := .agg #[.slice (some ⟨cb, 0, none⟩) 64 64, .slice (some ⟨g, 0, none⟩) n c, .bool false]) (by simp [results, Try.results70, go_sem, n1, n3, b1, b2, hgB2, hgB3]) rfl ?_
              exact HE.out
          have e3 : ((k4 : Int) == 3) = false := by simpa using m3
          clear m3
          by_cases m4 : (k4 : Int) = 4
          · have e4 : ((k4 : Int) == 4) = true := by simpa using m4
            clear m4
            clear KA HLN bx4 bf4 bl4 hbd1 hbd2
            go_wp2_with fail
            go_loopw [] (fun wr => ∃ (q n g c : Nat) (ws : List Wt), n ≤ 121 ∧ q ≤ p + 1000 + n ∧ p ≤ q ∧ Hid (LD w rb w2.heap.size q n cb g c false ws wr)) (fun wr => 121 - lenV ((wr.cell? ⟨w2.heap.size, 1, none⟩).getD undef))
            case atStart => exact ⟨q + 1, n, g, c, ws, by omega, by omega, by omega, L4⟩
            case round =>
              clear L4
              obtain ⟨q, n, g, c, ws, hn, hq, hpq, HL⟩ := hrel
              have bx := HL.out.box.cell
              have bl := HL.out.box.lt
              have HLN := Lib.hid HL.out.len
              have KA := Lib.hid (And.intro (show (ws.length + 1) * 24 ≤ 140737488355328 by have := HLN.out; omega) (show ws.length + 1 ≤ maxLen by have := HLN.out; unfold maxLen; omega))
              have hms : lenV ((wr.cell? ⟨w2.heap.size, 1, none⟩).getD undef) = n := by rw [bx 1]; rfl
              have HMS := Lib.hid hms
              clear hms
              have krem : Int.tmod (n : Int) 9 = ((n % 9 : Nat) : Int) := by rw [Int.tmod_eq_emod_of_nonneg (by omega)]; omega
              go_wp2_with fail
              go_region_law (refine step_callR (f := 62) (vs := #[.pointer (some ⟨rb, 0, none⟩), .int .i64 2]) (R := PickV wr.drew rb q 2) Try.func62 NP.out.1 NP.out.2 rfl rfl (by simp [Act.eval, Act.put]) (pickV _ rb q 2 HL.out.drew.rs (by omega) (by omega) (by omega)) ?_; rintro v5 w5 ⟨j5, rfl, hj5, hr5, hk5⟩; have L5 := Lib.hid (HL.out.drew.pick hr5 hk5); have bx5 := L5.out.box.cell; have bl5 := L5.out.box.lt; have hjI5 : (j5 : Int) < 2 := (by omega); clear hr5 hk5; have kw5 : IntKind.i64.wrap ((120 : Int) + (j5 : Int)) = (120 : Int) + (j5 : Int) := IntWalk.i64_in _ (by omega))
              all_goals
                by_cases hlt : n < 120 + j5
                · have hltI : (n : Int) < (120 : Int) + (j5 : Int) := by omega
                  have hltB : decide ((n : Int) < (120 : Int) + (j5 : Int)) = true := by simpa using hltI
                  go_wp2_with (at_builtin; refine wpList_app (base := w.heap.size) (xs := ws) (ys := ([⟨((n % 9 : Nat) : Int), ⟨#[122]⟩⟩] : List Wt)) elW rfl _ _ rfl (by rfl) (L5.out.alloc _).own (by rfl) rfl (rd_oneWAt w5 _ ⟨#[122]⟩ rfl) oneW KA.out.1 KA.out.2 (L5.out.alloc (.cells #[.int .i64 ((n % 9 : Nat) : Int), .string ⟨#[122]⟩] 75)).kp.size ?_; intro v6 w6 ho6 hg6 ha6; obtain ⟨g6, c6, hv6⟩ := own_block ho6 (by simp); rw [show (ws ++ [(⟨((n % 9 : Nat) : Int), ⟨#[122]⟩⟩ : Wt)]).length = n + 1 by simp [HLN.out]] at hv6; subst hv6; have BX6 := (L5.out.alloc (.cells #[.int .i64 ((n % 9 : Nat) : Int), .string ⟨#[122]⟩] 75)).box.grownT (L5.out.alloc (.cells #[.int .i64 ((n % 9 : Nat) : Int), .string ⟨#[122]⟩] 75)).own hg6 (by decide); have bx6 := BX6.cell; have bf6 := BX6.froz; have bl6 := BX6.lt; have LN := Lib.hid ((L5.out.alloc (.cells #[.int .i64 ((n % 9 : Nat) : Int), .string ⟨#[122]⟩] 75)).app rfl (y := ⟨((n % 9 : Nat) : Int), ⟨#[122]⟩⟩) (by show (1 : Nat) ≤ 1000; omega) ho6 hg6); clear ho6 hg6 ha6 BX6)
                  have hm6 : lenV (((w6.setCell ⟨w2.heap.size, 1, none⟩ (.slice (some ⟨g6, 0, none⟩) (n + 1) c6)).cell? ⟨w2.heap.size, 1, none⟩).getD undef) = n + 1 := by rw [LN.out.box.cell 1]; rfl
                  refine ⟨⟨q + 1, n + 1, g6, c6, _, by omega, by omega, by omega, LN⟩, ?_⟩
                  rw [hm6, HMS.out]
                  omega
                · have hltI : ¬ (n : Int) < (120 : Int) + (j5 : Int) := by omega
                  have n1 := L5.out.res.cell
                  have n2 := L5.out.res.froz
                  have n3 := L5.out.res.lt
                  have HE := Lib.hid (dk_end (p := p) (k := q + 1 - p) L5.out (by omega) (by omega))
                  have hgB := L5.out.gB
                  have hgB2 : ¬ w.heap.size = w2.heap.size := by omega
                  have hgB3 : ¬ w2.heap.size = w.heap.size := by omega
                  have b1 := L5.out.box.cell
                  have b2 := L5.out.box.lt
                  go_wp2_with fail
                  refine bodyPost_ret (v := .agg #[.slice (some ⟨cb, 0, none⟩) 64 64, .slice (some ⟨g, 0, none⟩) n c, .bool false]) (by simp [results, Try.results70, go_sem, n1, n3, b1, b2, hgB2, hgB3]) rfl ?_
                  exact HE.out
          have e4 : ((k4 : Int) == 4) = false := by simpa using m4
          clear m4
          have n1 := L4.out.res.cell
          have n2 := L4.out.res.froz
          have n3 := L4.out.res.lt
          have HE := Lib.hid (dk_end (p := p) (k := q + 1 - p) L4.out (by omega) (by omega))
          have hgB := L4.out.gB
          have hgB2 : ¬ w.heap.size = w2.heap.size := by omega
          have hgB3 : ¬ w2.heap.size = w.heap.size := by omega
          go_wp2_with fail
          refine bodyPost_ret (v := .agg #[.slice (some ⟨cb, 0, none⟩) 64 64, .slice (some ⟨g, 0, none⟩) n c, .bool false]) (by simp [results, Try.results70, go_sem, n1, n3, bx4, bl4, hgB2, hgB3]) rfl ?_
          exact HE.out

end Go.Proofs.Ytamljoffmkcbnaa
