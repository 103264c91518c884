/- A block out of its columns, by one of three ways: both texts. -/
import Derived.Test.YtamljoffmkcbnaaStripe
namespace Go.Proofs.Ytamljoffmkcbnaa
open Go.RowKit
set_option maxRecDepth 100000
set_option linter.unusedVariables false
set_option linter.unusedSimpArgs false

theorem half_any (sz h : Nat) (hh : (sz + 1) / 2 = h) (hs : sz ≤ 1000) (w : World) : Calls Try.prog 75 #[.int .i64 sz] w fun e w' => e = .returned (.int .i64 h) ∧ w = w' := by
  have k1 : IntKind.i64.wrap ((sz : Int) + 1) = (sz : Int) + 1 := IntWalk.i64_in _ (by omega)
  have k2 : Int.tdiv ((sz : Int) + 1) 2 = (h : Int) := by rw [Int.tdiv_eq_ediv_of_nonneg (by omega)]; omega
  have k3 : ((sz : Int) + 1) / 2 = (h : Int) := by omega
  clear hh
  go_enter Try.func75, Try.ntmps75
  go_wp2_with fail
  go_ret
  exact ⟨rfl, rfl⟩
theorem l4Half_any (sz h : Nat) (hh : (sz + 1) / 2 = h) (hs : sz ≤ 1000) (w : World) : Calls Try.prog 83 #[.int .i64 sz] w fun e w' => e = .returned (.int .i64 h) ∧ w = w' := by
  have k1 : IntKind.i64.wrap ((sz : Int) + 1) = (sz : Int) + 1 := IntWalk.i64_in _ (by omega)
  have k2 : Int.tdiv ((sz : Int) + 1) 2 = (h : Int) := by rw [Int.tdiv_eq_ediv_of_nonneg (by omega)]; omega
  have k3 : ((sz : Int) + 1) / 2 = (h : Int) := by omega
  clear hh
  go_enter Try.func83, Try.ntmps83
  go_wp2_with fail
  go_ret
  exact ⟨rfl, rfl⟩
theorem xorK_next {p o : List UInt8} {k : Nat} (h : k < p.length) : (xorK p o).take (k + 1) = (xorK p o).take k ++ [xb p k ^^^ xb o k] := by
  rw [List.take_add_one, xorK_get h]
  rfl
theorem xor_cut (p o : ByteArray) (n : Nat) : (xorS p o).extract 0 n = ⟨((xorK p.data.toList o.data.toList).take n).toArray⟩ := by
  apply ByteArray.ext
  rw [ByteArray.data_extract]
  apply Array.ext'
  simp [xorS]

set_option maxHeartbeats 2000000 in
theorem l4Other_any (w : World) (o p : ByteArray) (n : Nat) (hn : n ≤ p.size) (hp : p.size ≤ 128) (ho : o.size ≤ 1000) :
    Calls Try.prog 84 #[.string o, .string p, .int .i64 n] w fun e w' => e = .returned (.string ((xorS p o).extract 0 n)) ∧ Below w.heap.size w w' := by
  rw [xor_cut]
  obtain ⟨fin, hf⟩ : ∃ fin, fin = (xorK p.data.toList o.data.toList).take n := ⟨_, rfl⟩
  rw [← hf]
  have HE := Lib.hid (show ∀ k, k = n → (xorK p.data.toList o.data.toList).take k = fin from fun k h => by rw [h, hf])
  clear hf
  have B0 := Lib.hid (below_alloc (Below.refl w.heap.size w) (.cells #[] 5))
  have O0 := Lib.hid (Own.empty (enc := encB) (sz := 1) (T := 5) (base := w.heap.size) (w := w) (Nat.le_refl _))
  go_enter Try.func84, Try.ntmps84
  go_wp2_with fail
  go_loopw [7, 8] (fun v y wr => ∃ k : Nat, k ≤ n ∧ y = .int .i64 k ∧ Hid (Own encB 1 5 w.heap.size wr v ((xorK p.data.toList o.data.toList).take k)) ∧ v.ownBlock ≠ none ∧ Hid (Below w.heap.size w wr)) (fun _ y _ => n - (intOf y).toNat)
  case atStart => exact ⟨0, Nat.zero_le _, rfl, Lib.hid (by rw [List.take_zero]; exact O0.out), by simp [Value.ownBlock], B0⟩
  case round =>
    clear O0 B0
    obtain ⟨k, hk, rfl, HO, hob, HB⟩ := hrel
    by_cases hlt : k < n
    · have k2 : IntKind.i64.wrap ((k : Int) + 1) = (k : Int) + 1 := IntWalk.i64_in _ (by omega)
      have hkp : k < p.size := by omega
      have HS1 := Lib.hid (show xb p.data.toList k = p[k] from xb_get (idx_byte hkp))
      have hlen : ((xorK p.data.toList o.data.toList).take k).length = k := by rw [List.length_take, xorK_length]; show min k p.size = k; omega
      have KA := Lib.hid (And.intro (show (((xorK p.data.toList o.data.toList).take k).length + 1) * 1 ≤ 140737488355328 by omega) (show ((xorK p.data.toList o.data.toList).take k).length + 1 ≤ maxLen by unfold maxLen; omega))
      have HN := Lib.hid (xorK_next (p := p.data.toList) (o := o.data.toList) (k := k) hkp)
      clear hlen
      by_cases hko : k < o.size
      · have HX := Lib.hid (xor8 p[k] o[k])
        have HS2 := Lib.hid (show xb o.data.toList k = o[k] from xb_get (idx_byte hko))
        have HN2 := Lib.hid (show (xorK p.data.toList o.data.toList).take (k + 1) = (xorK p.data.toList o.data.toList).take k ++ [p[k] ^^^ o[k]] by rw [HN.out, HS1.out, HS2.out])
        clear HS1 HS2 HN
        go_wp2_with (at_builtin; refine wpList_app (ys := ([p[k] ^^^ o[k]] : List UInt8)) elB rfl _ _ rfl (by rfl) (own_allocB HO.out _) (by rfl) rfl (rd_oneB _ _ _ HX.out) oneB KA.out.1 KA.out.2 (below_alloc HB.out _).size ?_; intro v1 w4 ownv1 grv1 atv1; have O4 := Lib.hid ownv1; have B4 := Lib.hid (below_grown (below_alloc HB.out _) (own_allocB HO.out _) grv1); have hob4 : v1.ownBlock ≠ none := (by rcases atv1 with h | h <;> rw [h] <;> first | exact hob | simp); clear ownv1 grv1 atv1)
        rw [← HN2.out] at O4
        exact ⟨⟨k + 1, by omega, by go_num, O4, hob4, B4⟩, by simp [intOf]; omega⟩
      · have HX := Lib.hid (show ((p[k].toNat : Nat) : Int) = (p[k].toNat : Int) from rfl)
        have HS2 := Lib.hid (show xb o.data.toList k = 0 from xb_out (by show o.size ≤ k; omega))
        have HN2 := Lib.hid (show (xorK p.data.toList o.data.toList).take (k + 1) = (xorK p.data.toList o.data.toList).take k ++ [p[k]] by rw [HN.out, HS1.out, HS2.out, UInt8.xor_zero])
        clear HS1 HS2 HN
        go_wp2_with (at_builtin; refine wpList_app (ys := ([p[k]] : List UInt8)) elB rfl _ _ rfl (by rfl) (own_allocB HO.out _) (by rfl) rfl (rd_oneB _ _ _ HX.out) oneB KA.out.1 KA.out.2 (below_alloc HB.out _).size ?_; intro v1 w4 ownv1 grv1 atv1; have O4 := Lib.hid ownv1; have B4 := Lib.hid (below_grown (below_alloc HB.out _) (own_allocB HO.out _) grv1); have hob4 : v1.ownBlock ≠ none := (by rcases atv1 with h | h <;> rw [h] <;> first | exact hob | simp); clear ownv1 grv1 atv1)
        rw [← HN2.out] at O4
        exact ⟨⟨k + 1, by omega, by go_num, O4, hob4, B4⟩, by simp [intOf]; omega⟩
    · obtain rfl : k = n := by omega
      have hcv := conv_bytes HO.out hob
      rw [HE.out k rfl] at hcv
      clear HE
      go_wp2_with (refine wpList_convertB rfl _ _ _ rfl rfl hcv ?_)
      go_ret
      exact ⟨rfl, HB.out⟩

/-- A block of so many bytes out of its columns. -/
def joinK (c0 c1 c2 : ByteArray) (h m : Nat) (lost : Int) : Option ByteArray :=
  if lost = -1 then (if c0.size = h ∧ c1.size = m then some (c0 ++ c1) else none)
  else if lost = 0 then (if c1.size = m ∧ c2.size = h then some (xorS c2 c1 ++ c1) else none)
  else (if c0.size = h ∧ c2.size = h then some (c0 ++ (xorS c2 c0).extract 0 m) else none)
def optS (r : Option ByteArray) : ByteArray := r.getD ⟨#[]⟩
theorem cut_all (s : ByteArray) : s.extract 0 s.size = s := by simp
theorem rd_three {w : World} {A : Option Addr} {c0 c1 c2 : ByteArray} (h : RdT encS 1 w A [c0, c1, c2]) : ∃ b off, A = some ⟨b, off, none⟩ ∧ b < w.heap.size ∧ w.cell? ⟨b, off, none⟩ = some (.string c0) ∧ w.cell? ⟨b, off + 1, none⟩ = some (.string c1) ∧ w.cell? ⟨b, off + 2, none⟩ = some (.string c2) := by
  obtain ⟨b, off, rfl, hb, hc⟩ := h (by simp)
  exact ⟨b, off, rfl, hb, by simpa [encS] using hc 0 c0 rfl 0 (by omega), by simpa [encS] using hc 1 c1 rfl 0 (by omega), by simpa [encS] using hc 2 c2 rfl 0 (by omega)⟩

theorem joinK_m1_yes (c0 c1 c2 : ByteArray) (h m : Nat) (e0 : c0.size = h) (e1 : c1.size = m) : joinK c0 c1 c2 h m (-1) = some (c0 ++ c1) := by simp [joinK, e0, e1]
theorem joinK_m1_no1 (c0 c1 c2 : ByteArray) (h m : Nat) (e0 : ¬ c0.size = h) : joinK c0 c1 c2 h m (-1) = none := by simp [joinK, e0]
theorem joinK_m1_no2 (c0 c1 c2 : ByteArray) (h m : Nat) (e0 : ¬ c1.size = m) : joinK c0 c1 c2 h m (-1) = none := by simp [joinK, e0]
theorem joinK_0_yes (c0 c1 c2 : ByteArray) (h m : Nat) (e0 : c1.size = m) (e1 : c2.size = h) : joinK c0 c1 c2 h m 0 = some (xorS c2 c1 ++ c1) := by simp [joinK, e0, e1]
theorem joinK_0_no1 (c0 c1 c2 : ByteArray) (h m : Nat) (e0 : ¬ c1.size = m) : joinK c0 c1 c2 h m 0 = none := by simp [joinK, e0]
theorem joinK_0_no2 (c0 c1 c2 : ByteArray) (h m : Nat) (e0 : ¬ c2.size = h) : joinK c0 c1 c2 h m 0 = none := by simp [joinK, e0]
theorem joinK_1_yes (c0 c1 c2 : ByteArray) (h m : Nat) (e0 : c0.size = h) (e1 : c2.size = h) : joinK c0 c1 c2 h m 1 = some (c0 ++ (xorS c2 c0).extract 0 m) := by simp [joinK, e0, e1]
theorem joinK_1_no1 (c0 c1 c2 : ByteArray) (h m : Nat) (e0 : ¬ c0.size = h) : joinK c0 c1 c2 h m 1 = none := by simp [joinK, e0]
theorem joinK_1_no2 (c0 c1 c2 : ByteArray) (h m : Nat) (e0 : ¬ c2.size = h) : joinK c0 c1 c2 h m 1 = none := by simp [joinK, e0]
theorem within_ok (sz : Nat) (h1 : 1 ≤ sz) (h2 : sz ≤ 128) : inB (sz : Int) 1 128 = true := inB_mk (by omega) (by omega)

set_option maxHeartbeats 4000000 in
theorem stripeJoin_m1 (w : World) (A : Option Addr) (cap : Nat) (c0 c1 c2 : ByteArray) (sz h m : Nat) (hr : RdT encS 1 w A [c0, c1, c2]) (hc : 3 ≤ cap) (hcm : cap ≤ 9223372036854775807) (hh : (sz + 1) / 2 = h) (hm : sz = h + m) (h1 : 1 ≤ sz) (h2 : sz ≤ 128) (z0 : c0.size ≤ 1000) (z1 : c1.size ≤ 1000) (z2 : c2.size ≤ 1000) :
    Calls Try.prog 48 #[.slice A 3 cap, .int .i64 sz, .int .i64 (-1)] w fun e w' => e = .returned (.tuple #[.string (optS (joinK c0 c1 c2 h m (-1))), .bool (joinK c0 c1 c2 h m (-1)).isSome]) ∧ Below w.heap.size w w' := by
  obtain ⟨b, off, rfl, hb, x0, x1, x2⟩ := rd_three hr
  have hm2 : m ≤ h := by omega
  have hh1 : 1 ≤ h := by omega
  have hh2 : h ≤ 64 := by omega
  have HH := Lib.hid (half_any sz h hh (by omega))
  have i1 := within_ok sz h1 h2
  have i2 : inB (-1) (-1) 1 = true := rfl
  have ks : IntKind.i64.wrap ((sz : Int) - (h : Int)) = (m : Int) := by rw [hm, IntWalk.i64_in _ (by omega)]; omega
  have HY := Lib.hid (joinK_m1_yes c0 c1 c2 h m)
  have HN1 := Lib.hid (joinK_m1_no1 c0 c1 c2 h m)
  have HN2 := Lib.hid (joinK_m1_no2 c0 c1 c2 h m)
  generalize hj : joinK c0 c1 c2 h m (-1) = r at *
  clear hj hh hm hr h1 h2
  have HBa := Lib.hid (below_alloc (Below.refl w.heap.size w) (.cells #[.int .i64 h, .int .i64 m, .int .i64 h] 104))
  go_enter Try.func48, Try.ntmps48
  go_wp2_with (first | (go_at_call 45; refine Calls.mono (within_any _ _ _ _) ?_; rintro e w' ⟨rfl, rfl⟩) | (go_at_call 75; refine Calls.mono (HH.out _) ?_; rintro e w' ⟨rfl, rfl⟩))
  go_loop [36] (fun y => ∃ k : Nat, k ≤ 3 ∧ y = .int .i64 k ∧ Hid ((0 < k → c0.size = h) ∧ (1 < k → c1.size = m))) (fun y => 3 - (intOf y).toNat)
  case atStart => exact ⟨0, by omega, rfl, Lib.hid ⟨fun h => by omega, fun h => by omega⟩⟩
  case round =>
    obtain ⟨k, hk, rfl, HS⟩ := hrel
    rcases (show k = 0 ∨ k = 1 ∨ k = 2 ∨ k = 3 by omega) with rfl | rfl | rfl | rfl
    · by_cases e0 : c0.size = h
      · have HS2 := Lib.hid (show (0 < 1 → c0.size = h) ∧ (1 < 1 → c1.size = m) from ⟨fun _ => e0 , fun h => absurd h (by omega)⟩)
        have j0 : ((c0.size : Int) != (h : Int)) = false := by rw [e0]; simp
        clear e0 HS
        go_wp2_with fail
        exact ⟨⟨1, by omega, rfl, HS2⟩, by simp [intOf]⟩
      · have HR := Lib.hid (HN1.out e0)
        have j0 : ((c0.size : Int) != (h : Int)) = true := by simp; omega
        clear e0 HS
        go_wp2_with fail
        go_ret2
        exact ⟨by rw [HR.out]; rfl, HBa.out⟩
    · by_cases e1 : c1.size = m
      · have HS2 := Lib.hid (show (0 < 2 → c0.size = h) ∧ (1 < 2 → c1.size = m) from ⟨fun _ => HS.out.1 (by omega) , fun _ => e1⟩)
        have j1 : ((c1.size : Int) != (m : Int)) = false := by rw [e1]; simp
        clear e1 HS
        go_wp2_with fail
        exact ⟨⟨2, by omega, rfl, HS2⟩, by simp [intOf]⟩
      · have HR := Lib.hid (HN2.out e1)
        have j1 : ((c1.size : Int) != (m : Int)) = true := by simp; omega
        clear e1 HS
        go_wp2_with fail
        go_ret2
        exact ⟨by rw [HR.out]; rfl, HBa.out⟩
    · have HS2 := Lib.hid (show (0 < 3 → c0.size = h) ∧ (1 < 3 → c1.size = m) from ⟨fun _ => HS.out.1 (by omega) , fun _ => HS.out.2 (by omega)⟩)
      clear HS
      go_wp2_with fail
      exact ⟨⟨3, by omega, rfl, HS2⟩, by simp [intOf]⟩
    · have e0 := HS.out.1 (by omega)
      have e1 := HS.out.2 (by omega)
      have HR := Lib.hid (HY.out e0 e1)
      clear HS HY HN1 HN2
      have q1 : ¬ 9223372036854775807 < c0.size + c1.size := by omega
      go_wp2_with fail
      refine wp_quiet_b (by kernel_rfl) (by kernel_rfl) (fun hgrow => ?_)
      repeat (go_big_quiet_step (fail))
      refine wpQuiet_nil ?_
      intro w2 hww2
      replace hww2 := below_of_regrown hww2
      clear hgrow
      go_wp2_with fail
      go_ret2
      exact ⟨by rw [HR.out]; rfl, by have := HBa.out; have := hww2; (repeat (first | assumption | exact Below.refl _ _ | refine below_alloc ?_ _ | refine Below.drew ?_ | refine below_drewN ?_ _ | refine below_set ?_ (by first | exact Nat.le_refl _ | omega | (simp; done) | (simp; omega)) _ | refine below_kp ?_ (by assumption) (by simp) | refine below_below ?_ (by assumption)))⟩
set_option maxHeartbeats 4000000 in
theorem stripeJoin_0 (w : World) (A : Option Addr) (cap : Nat) (c0 c1 c2 : ByteArray) (sz h m : Nat) (hr : RdT encS 1 w A [c0, c1, c2]) (hc : 3 ≤ cap) (hcm : cap ≤ 9223372036854775807) (hh : (sz + 1) / 2 = h) (hm : sz = h + m) (h1 : 1 ≤ sz) (h2 : sz ≤ 128) (z0 : c0.size ≤ 1000) (z1 : c1.size ≤ 1000) (z2 : c2.size ≤ 1000) :
    Calls Try.prog 48 #[.slice A 3 cap, .int .i64 sz, .int .i64 0] w fun e w' => e = .returned (.tuple #[.string (optS (joinK c0 c1 c2 h m 0)), .bool (joinK c0 c1 c2 h m 0).isSome]) ∧ Below w.heap.size w w' := by
  obtain ⟨b, off, rfl, hb, x0, x1, x2⟩ := rd_three hr
  have hm2 : m ≤ h := by omega
  have hh1 : 1 ≤ h := by omega
  have hh2 : h ≤ 64 := by omega
  have HH := Lib.hid (half_any sz h hh (by omega))
  have i1 := within_ok sz h1 h2
  have i2 : inB 0 (-1) 1 = true := rfl
  have ks : IntKind.i64.wrap ((sz : Int) - (h : Int)) = (m : Int) := by rw [hm, IntWalk.i64_in _ (by omega)]; omega
  have HY := Lib.hid (joinK_0_yes c0 c1 c2 h m)
  have HN1 := Lib.hid (joinK_0_no1 c0 c1 c2 h m)
  have HN2 := Lib.hid (joinK_0_no2 c0 c1 c2 h m)
  generalize hj : joinK c0 c1 c2 h m 0 = r at *
  clear hj hh hm hr h1 h2
  have HBa := Lib.hid (below_alloc (Below.refl w.heap.size w) (.cells #[.int .i64 h, .int .i64 m, .int .i64 h] 104))
  go_enter Try.func48, Try.ntmps48
  go_wp2_with (first | (go_at_call 45; refine Calls.mono (within_any _ _ _ _) ?_; rintro e w' ⟨rfl, rfl⟩) | (go_at_call 75; refine Calls.mono (HH.out _) ?_; rintro e w' ⟨rfl, rfl⟩))
  go_loop [36] (fun y => ∃ k : Nat, k ≤ 3 ∧ y = .int .i64 k ∧ Hid ((1 < k → c1.size = m) ∧ (2 < k → c2.size = h))) (fun y => 3 - (intOf y).toNat)
  case atStart => exact ⟨0, by omega, rfl, Lib.hid ⟨fun h => by omega, fun h => by omega⟩⟩
  case round =>
    obtain ⟨k, hk, rfl, HS⟩ := hrel
    rcases (show k = 0 ∨ k = 1 ∨ k = 2 ∨ k = 3 by omega) with rfl | rfl | rfl | rfl
    · have HS2 := Lib.hid (show (1 < 1 → c1.size = m) ∧ (2 < 1 → c2.size = h) from ⟨fun h => absurd h (by omega) , fun h => absurd h (by omega)⟩)
      clear HS
      go_wp2_with fail
      exact ⟨⟨1, by omega, rfl, HS2⟩, by simp [intOf]⟩
    · by_cases e1 : c1.size = m
      · have HS2 := Lib.hid (show (1 < 2 → c1.size = m) ∧ (2 < 2 → c2.size = h) from ⟨fun _ => e1 , fun h => absurd h (by omega)⟩)
        have j1 : ((c1.size : Int) != (m : Int)) = false := by rw [e1]; simp
        clear e1 HS
        go_wp2_with fail
        exact ⟨⟨2, by omega, rfl, HS2⟩, by simp [intOf]⟩
      · have HR := Lib.hid (HN1.out e1)
        have j1 : ((c1.size : Int) != (m : Int)) = true := by simp; omega
        clear e1 HS
        go_wp2_with fail
        go_ret2
        exact ⟨by rw [HR.out]; rfl, HBa.out⟩
    · by_cases e2 : c2.size = h
      · have HS2 := Lib.hid (show (1 < 3 → c1.size = m) ∧ (2 < 3 → c2.size = h) from ⟨fun _ => HS.out.1 (by omega) , fun _ => e2⟩)
        have j2 : ((c2.size : Int) != (h : Int)) = false := by rw [e2]; simp
        clear e2 HS
        go_wp2_with fail
        exact ⟨⟨3, by omega, rfl, HS2⟩, by simp [intOf]⟩
      · have HR := Lib.hid (HN2.out e2)
        have j2 : ((c2.size : Int) != (h : Int)) = true := by simp; omega
        clear e2 HS
        go_wp2_with fail
        go_ret2
        exact ⟨by rw [HR.out]; rfl, HBa.out⟩
    · have e0 := HS.out.1 (by omega)
      have e1 := HS.out.2 (by omega)
      have HR := Lib.hid (HY.out e0 e1)
      clear HS HY HN1 HN2
      have HXO := Lib.hid (fun W => xor_any W c2 c1 (by omega) (by omega) (by omega))
      rw [e1] at HXO
      have HSZ := Lib.hid (xorS_size c2 c1)
      have q1 : ¬ 9223372036854775807 < (xorS c2 c1).size + c1.size := by have := HSZ.out; omega
      generalize xorS c2 c1 = xr at *
      go_wp2_with fail
      refine wp_quiet_b (by kernel_rfl) (by kernel_rfl) (fun hgrow => ?_)
      repeat (go_big_quiet_step ((go_at_call 76; exact quiet_b (HXO.out _))))
      refine wpQuiet_nil ?_
      intro w2 hww2
      replace hww2 := below_of_regrown hww2
      clear hgrow
      go_wp2_with fail
      go_ret2
      exact ⟨by rw [HR.out]; rfl, by have := HBa.out; have := hww2; (repeat (first | assumption | exact Below.refl _ _ | refine below_alloc ?_ _ | refine Below.drew ?_ | refine below_drewN ?_ _ | refine below_set ?_ (by first | exact Nat.le_refl _ | omega | (simp; done) | (simp; omega)) _ | refine below_kp ?_ (by assumption) (by simp) | refine below_below ?_ (by assumption)))⟩
set_option maxHeartbeats 4000000 in
theorem stripeJoin_1 (w : World) (A : Option Addr) (cap : Nat) (c0 c1 c2 : ByteArray) (sz h m : Nat) (hr : RdT encS 1 w A [c0, c1, c2]) (hc : 3 ≤ cap) (hcm : cap ≤ 9223372036854775807) (hh : (sz + 1) / 2 = h) (hm : sz = h + m) (h1 : 1 ≤ sz) (h2 : sz ≤ 128) (z0 : c0.size ≤ 1000) (z1 : c1.size ≤ 1000) (z2 : c2.size ≤ 1000) :
    Calls Try.prog 48 #[.slice A 3 cap, .int .i64 sz, .int .i64 1] w fun e w' => e = .returned (.tuple #[.string (optS (joinK c0 c1 c2 h m 1)), .bool (joinK c0 c1 c2 h m 1).isSome]) ∧ Below w.heap.size w w' := by
  obtain ⟨b, off, rfl, hb, x0, x1, x2⟩ := rd_three hr
  have hm2 : m ≤ h := by omega
  have hh1 : 1 ≤ h := by omega
  have hh2 : h ≤ 64 := by omega
  have HH := Lib.hid (half_any sz h hh (by omega))
  have i1 := within_ok sz h1 h2
  have i2 : inB 1 (-1) 1 = true := rfl
  have ks : IntKind.i64.wrap ((sz : Int) - (h : Int)) = (m : Int) := by rw [hm, IntWalk.i64_in _ (by omega)]; omega
  have HY := Lib.hid (joinK_1_yes c0 c1 c2 h m)
  have HN1 := Lib.hid (joinK_1_no1 c0 c1 c2 h m)
  have HN2 := Lib.hid (joinK_1_no2 c0 c1 c2 h m)
  generalize hj : joinK c0 c1 c2 h m 1 = r at *
  clear hj hh hm hr h1 h2
  have HBa := Lib.hid (below_alloc (Below.refl w.heap.size w) (.cells #[.int .i64 h, .int .i64 m, .int .i64 h] 104))
  go_enter Try.func48, Try.ntmps48
  go_wp2_with (first | (go_at_call 45; refine Calls.mono (within_any _ _ _ _) ?_; rintro e w' ⟨rfl, rfl⟩) | (go_at_call 75; refine Calls.mono (HH.out _) ?_; rintro e w' ⟨rfl, rfl⟩))
  go_loop [36] (fun y => ∃ k : Nat, k ≤ 3 ∧ y = .int .i64 k ∧ Hid ((0 < k → c0.size = h) ∧ (2 < k → c2.size = h))) (fun y => 3 - (intOf y).toNat)
  case atStart => exact ⟨0, by omega, rfl, Lib.hid ⟨fun h => by omega, fun h => by omega⟩⟩
  case round =>
    obtain ⟨k, hk, rfl, HS⟩ := hrel
    rcases (show k = 0 ∨ k = 1 ∨ k = 2 ∨ k = 3 by omega) with rfl | rfl | rfl | rfl
    · by_cases e0 : c0.size = h
      · have HS2 := Lib.hid (show (0 < 1 → c0.size = h) ∧ (2 < 1 → c2.size = h) from ⟨fun _ => e0 , fun h => absurd h (by omega)⟩)
        have j0 : ((c0.size : Int) != (h : Int)) = false := by rw [e0]; simp
        clear e0 HS
        go_wp2_with fail
        exact ⟨⟨1, by omega, rfl, HS2⟩, by simp [intOf]⟩
      · have HR := Lib.hid (HN1.out e0)
        have j0 : ((c0.size : Int) != (h : Int)) = true := by simp; omega
        clear e0 HS
        go_wp2_with fail
        go_ret2
        exact ⟨by rw [HR.out]; rfl, HBa.out⟩
    · have HS2 := Lib.hid (show (0 < 2 → c0.size = h) ∧ (2 < 2 → c2.size = h) from ⟨fun _ => HS.out.1 (by omega) , fun h => absurd h (by omega)⟩)
      clear HS
      go_wp2_with fail
      exact ⟨⟨2, by omega, rfl, HS2⟩, by simp [intOf]⟩
    · by_cases e2 : c2.size = h
      · have HS2 := Lib.hid (show (0 < 3 → c0.size = h) ∧ (2 < 3 → c2.size = h) from ⟨fun _ => HS.out.1 (by omega) , fun _ => e2⟩)
        have j2 : ((c2.size : Int) != (h : Int)) = false := by rw [e2]; simp
        clear e2 HS
        go_wp2_with fail
        exact ⟨⟨3, by omega, rfl, HS2⟩, by simp [intOf]⟩
      · have HR := Lib.hid (HN2.out e2)
        have j2 : ((c2.size : Int) != (h : Int)) = true := by simp; omega
        clear e2 HS
        go_wp2_with fail
        go_ret2
        exact ⟨by rw [HR.out]; rfl, HBa.out⟩
    · have e0 := HS.out.1 (by omega)
      have e1 := HS.out.2 (by omega)
      have HR := Lib.hid (HY.out e0 e1)
      clear HS HY HN1 HN2
      have HXO := Lib.hid (fun W => xor_any W c2 c0 (by omega) (by omega) (by omega))
      rw [e1] at HXO
      have hsz := xorS_size c2 c0
      have q3 : (m : Int) ≤ ((xorS c2 c0).size : Int) := by omega
      have q1 : ¬ 9223372036854775807 < c0.size + ((xorS c2 c0).extract 0 m).size := by rw [ByteArray.size_extract]; omega
      clear hsz
      generalize xorS c2 c0 = xr at *
      go_wp2_with fail
      refine wp_quiet_b (by kernel_rfl) (by kernel_rfl) (fun hgrow => ?_)
      repeat (go_big_quiet_step ((go_at_call 76; exact quiet_b (HXO.out _))))
      refine wpQuiet_nil ?_
      intro w2 hww2
      replace hww2 := below_of_regrown hww2
      clear hgrow
      go_wp2_with fail
      go_ret2
      exact ⟨by rw [HR.out]; rfl, by have := HBa.out; have := hww2; (repeat (first | assumption | exact Below.refl _ _ | refine below_alloc ?_ _ | refine Below.drew ?_ | refine below_drewN ?_ _ | refine below_set ?_ (by first | exact Nat.le_refl _ | omega | (simp; done) | (simp; omega)) _ | refine below_kp ?_ (by assumption) (by simp) | refine below_below ?_ (by assumption)))⟩
set_option maxHeartbeats 4000000 in
theorem specStripeJoin_m1 (w : World) (A : Option Addr) (cap : Nat) (c0 c1 c2 : ByteArray) (sz h m : Nat) (hr : RdT encS 1 w A [c0, c1, c2]) (hc : 3 ≤ cap) (hcm : cap ≤ 9223372036854775807) (hh : (sz + 1) / 2 = h) (hm : sz = h + m) (h1 : 1 ≤ sz) (h2 : sz ≤ 128) (z0 : c0.size ≤ 1000) (z1 : c1.size ≤ 1000) (z2 : c2.size ≤ 1000) :
    Calls Try.prog 58 #[.slice A 3 cap, .int .i64 sz, .int .i64 (-1)] w fun e w' => e = .returned (.tuple #[.string (optS (joinK c0 c1 c2 h m (-1))), .bool (joinK c0 c1 c2 h m (-1)).isSome]) ∧ Below w.heap.size w w' := by
  obtain ⟨b, off, rfl, hb, x0, x1, x2⟩ := rd_three hr
  have hm2 : m ≤ h := by omega
  have hh1 : 1 ≤ h := by omega
  have hh2 : h ≤ 64 := by omega
  have HH := Lib.hid (l4Half_any sz h hh (by omega))
  have i1 := within_ok sz h1 h2
  have i2 : inB (-1) (-1) 1 = true := rfl
  have ks : IntKind.i64.wrap ((sz : Int) - (h : Int)) = (m : Int) := by rw [hm, IntWalk.i64_in _ (by omega)]; omega
  have HY := Lib.hid (joinK_m1_yes c0 c1 c2 h m)
  have HN1 := Lib.hid (joinK_m1_no1 c0 c1 c2 h m)
  have HN2 := Lib.hid (joinK_m1_no2 c0 c1 c2 h m)
  generalize hj : joinK c0 c1 c2 h m (-1) = r at *
  clear hj hh hm hr h1 h2
  have HBa := Lib.hid (Below.refl w.heap.size w)
  by_cases e0 : c0.size = h
  rotate_left 1
  · have HR := Lib.hid (HN1.out e0)
    have j0 : ((c0.size : Int) == (h : Int)) = false := by simp; omega
    clear HY HN1 HN2 e0
    go_enter Try.func58, Try.ntmps58
    go_wp2_with (first | (go_at_call 56; refine Calls.mono (l6In_any _ _ _ _) ?_; rintro e w' ⟨rfl, rfl⟩) | (go_at_call 83; refine Calls.mono (HH.out _) ?_; rintro e w' ⟨rfl, rfl⟩))
    go_ret2
    exact ⟨by rw [HR.out]; rfl, HBa.out⟩
  have j0 : ((c0.size : Int) == (h : Int)) = true := by rw [e0]; simp
  by_cases e1 : c1.size = m
  rotate_left 1
  · have HR := Lib.hid (HN2.out e1)
    have j1 : ((c1.size : Int) == (m : Int)) = false := by simp; omega
    clear HY HN1 HN2 e1 e0
    go_enter Try.func58, Try.ntmps58
    go_wp2_with (first | (go_at_call 56; refine Calls.mono (l6In_any _ _ _ _) ?_; rintro e w' ⟨rfl, rfl⟩) | (go_at_call 83; refine Calls.mono (HH.out _) ?_; rintro e w' ⟨rfl, rfl⟩))
    go_ret2
    exact ⟨by rw [HR.out]; rfl, HBa.out⟩
  have j1 : ((c1.size : Int) == (m : Int)) = true := by rw [e1]; simp
  have HR := Lib.hid (HY.out e0 e1)
  have q1 : ¬ 9223372036854775807 < c0.size + c1.size := by omega
  clear HY HN1 HN2 e0 e1
  go_enter Try.func58, Try.ntmps58
  go_wp2_with (first | (go_at_call 56; refine Calls.mono (l6In_any _ _ _ _) ?_; rintro e w' ⟨rfl, rfl⟩) | (go_at_call 83; refine Calls.mono (HH.out _) ?_; rintro e w' ⟨rfl, rfl⟩))
  refine wp_quiet_b (by kernel_rfl) (by kernel_rfl) (fun hgrow => ?_)
  repeat (go_big_quiet_step (fail))
  refine wpQuiet_nil ?_
  intro w2 hww2
  replace hww2 := below_of_regrown hww2
  clear hgrow
  go_wp2_with fail
  go_ret2
  exact ⟨by rw [HR.out]; rfl, by have := HBa.out; have := hww2; (repeat (first | assumption | exact Below.refl _ _ | refine below_alloc ?_ _ | refine Below.drew ?_ | refine below_drewN ?_ _ | refine below_set ?_ (by first | exact Nat.le_refl _ | omega | (simp; done) | (simp; omega)) _ | refine below_kp ?_ (by assumption) (by simp) | refine below_below ?_ (by assumption)))⟩
set_option maxHeartbeats 4000000 in
theorem specStripeJoin_0 (w : World) (A : Option Addr) (cap : Nat) (c0 c1 c2 : ByteArray) (sz h m : Nat) (hr : RdT encS 1 w A [c0, c1, c2]) (hc : 3 ≤ cap) (hcm : cap ≤ 9223372036854775807) (hh : (sz + 1) / 2 = h) (hm : sz = h + m) (h1 : 1 ≤ sz) (h2 : sz ≤ 128) (z0 : c0.size ≤ 1000) (z1 : c1.size ≤ 1000) (z2 : c2.size ≤ 1000) :
    Calls Try.prog 58 #[.slice A 3 cap, .int .i64 sz, .int .i64 0] w fun e w' => e = .returned (.tuple #[.string (optS (joinK c0 c1 c2 h m 0)), .bool (joinK c0 c1 c2 h m 0).isSome]) ∧ Below w.heap.size w w' := by
  obtain ⟨b, off, rfl, hb, x0, x1, x2⟩ := rd_three hr
  have hm2 : m ≤ h := by omega
  have hh1 : 1 ≤ h := by omega
  have hh2 : h ≤ 64 := by omega
  have HH := Lib.hid (l4Half_any sz h hh (by omega))
  have i1 := within_ok sz h1 h2
  have i2 : inB 0 (-1) 1 = true := rfl
  have ks : IntKind.i64.wrap ((sz : Int) - (h : Int)) = (m : Int) := by rw [hm, IntWalk.i64_in _ (by omega)]; omega
  have HY := Lib.hid (joinK_0_yes c0 c1 c2 h m)
  have HN1 := Lib.hid (joinK_0_no1 c0 c1 c2 h m)
  have HN2 := Lib.hid (joinK_0_no2 c0 c1 c2 h m)
  generalize hj : joinK c0 c1 c2 h m 0 = r at *
  clear hj hh hm hr h1 h2
  have HBa := Lib.hid (Below.refl w.heap.size w)
  by_cases e0 : c1.size = m
  rotate_left 1
  · have HR := Lib.hid (HN1.out e0)
    have j0 : ((c1.size : Int) == (m : Int)) = false := by simp; omega
    clear HY HN1 HN2 e0
    go_enter Try.func58, Try.ntmps58
    go_wp2_with (first | (go_at_call 56; refine Calls.mono (l6In_any _ _ _ _) ?_; rintro e w' ⟨rfl, rfl⟩) | (go_at_call 83; refine Calls.mono (HH.out _) ?_; rintro e w' ⟨rfl, rfl⟩))
    go_ret2
    exact ⟨by rw [HR.out]; rfl, HBa.out⟩
  have j0 : ((c1.size : Int) == (m : Int)) = true := by rw [e0]; simp
  by_cases e1 : c2.size = h
  rotate_left 1
  · have HR := Lib.hid (HN2.out e1)
    have j1 : ((c2.size : Int) == (h : Int)) = false := by simp; omega
    clear HY HN1 HN2 e1 e0
    go_enter Try.func58, Try.ntmps58
    go_wp2_with (first | (go_at_call 56; refine Calls.mono (l6In_any _ _ _ _) ?_; rintro e w' ⟨rfl, rfl⟩) | (go_at_call 83; refine Calls.mono (HH.out _) ?_; rintro e w' ⟨rfl, rfl⟩))
    go_ret2
    exact ⟨by rw [HR.out]; rfl, HBa.out⟩
  have j1 : ((c2.size : Int) == (h : Int)) = true := by rw [e1]; simp
  have HR := Lib.hid (HY.out e0 e1)
  have HXO := Lib.hid (fun W => l4Other_any W c1 c2 c2.size (by omega) (by omega) (by omega))
  have HSZ := Lib.hid (xorS_size c2 c1)
  rw [show (xorS c2 c1).extract 0 c2.size = xorS c2 c1 by rw [← xorS_size c2 c1, cut_all]] at HXO
  rw [e1] at HXO
  have q1 : ¬ 9223372036854775807 < (xorS c2 c1).size + c1.size := by have := HSZ.out; omega
  clear HY HN1 HN2 e0 e1 HSZ
  generalize xorS c2 c1 = xr at *
  go_enter Try.func58, Try.ntmps58
  go_wp2_with (first | (go_at_call 56; refine Calls.mono (l6In_any _ _ _ _) ?_; rintro e w' ⟨rfl, rfl⟩) | (go_at_call 83; refine Calls.mono (HH.out _) ?_; rintro e w' ⟨rfl, rfl⟩))
  refine wp_quiet_b (by kernel_rfl) (by kernel_rfl) (fun hgrow => ?_)
  repeat (go_big_quiet_step ((go_at_call 84; exact quiet_b (HXO.out _))))
  refine wpQuiet_nil ?_
  intro w2 hww2
  replace hww2 := below_of_regrown hww2
  clear hgrow
  go_wp2_with fail
  go_ret2
  exact ⟨by rw [HR.out]; rfl, by have := HBa.out; have := hww2; (repeat (first | assumption | exact Below.refl _ _ | refine below_alloc ?_ _ | refine Below.drew ?_ | refine below_drewN ?_ _ | refine below_set ?_ (by first | exact Nat.le_refl _ | omega | (simp; done) | (simp; omega)) _ | refine below_kp ?_ (by assumption) (by simp) | refine below_below ?_ (by assumption)))⟩
set_option maxHeartbeats 4000000 in
theorem specStripeJoin_1 (w : World) (A : Option Addr) (cap : Nat) (c0 c1 c2 : ByteArray) (sz h m : Nat) (hr : RdT encS 1 w A [c0, c1, c2]) (hc : 3 ≤ cap) (hcm : cap ≤ 9223372036854775807) (hh : (sz + 1) / 2 = h) (hm : sz = h + m) (h1 : 1 ≤ sz) (h2 : sz ≤ 128) (z0 : c0.size ≤ 1000) (z1 : c1.size ≤ 1000) (z2 : c2.size ≤ 1000) :
    Calls Try.prog 58 #[.slice A 3 cap, .int .i64 sz, .int .i64 1] w fun e w' => e = .returned (.tuple #[.string (optS (joinK c0 c1 c2 h m 1)), .bool (joinK c0 c1 c2 h m 1).isSome]) ∧ Below w.heap.size w w' := by
  obtain ⟨b, off, rfl, hb, x0, x1, x2⟩ := rd_three hr
  have hm2 : m ≤ h := by omega
  have hh1 : 1 ≤ h := by omega
  have hh2 : h ≤ 64 := by omega
  have HH := Lib.hid (l4Half_any sz h hh (by omega))
  have i1 := within_ok sz h1 h2
  have i2 : inB 1 (-1) 1 = true := rfl
  have ks : IntKind.i64.wrap ((sz : Int) - (h : Int)) = (m : Int) := by rw [hm, IntWalk.i64_in _ (by omega)]; omega
  have HY := Lib.hid (joinK_1_yes c0 c1 c2 h m)
  have HN1 := Lib.hid (joinK_1_no1 c0 c1 c2 h m)
  have HN2 := Lib.hid (joinK_1_no2 c0 c1 c2 h m)
  generalize hj : joinK c0 c1 c2 h m 1 = r at *
  clear hj hh hm hr h1 h2
  have HBa := Lib.hid (Below.refl w.heap.size w)
  by_cases e0 : c0.size = h
  rotate_left 1
  · have HR := Lib.hid (HN1.out e0)
    have j0 : ((c0.size : Int) == (h : Int)) = false := by simp; omega
    clear HY HN1 HN2 e0
    go_enter Try.func58, Try.ntmps58
    go_wp2_with (first | (go_at_call 56; refine Calls.mono (l6In_any _ _ _ _) ?_; rintro e w' ⟨rfl, rfl⟩) | (go_at_call 83; refine Calls.mono (HH.out _) ?_; rintro e w' ⟨rfl, rfl⟩))
    go_ret2
    exact ⟨by rw [HR.out]; rfl, HBa.out⟩
  have j0 : ((c0.size : Int) == (h : Int)) = true := by rw [e0]; simp
  by_cases e1 : c2.size = h
  rotate_left 1
  · have HR := Lib.hid (HN2.out e1)
    have j1 : ((c2.size : Int) == (h : Int)) = false := by simp; omega
    clear HY HN1 HN2 e1 e0
    go_enter Try.func58, Try.ntmps58
    go_wp2_with (first | (go_at_call 56; refine Calls.mono (l6In_any _ _ _ _) ?_; rintro e w' ⟨rfl, rfl⟩) | (go_at_call 83; refine Calls.mono (HH.out _) ?_; rintro e w' ⟨rfl, rfl⟩))
    go_ret2
    exact ⟨by rw [HR.out]; rfl, HBa.out⟩
  have j1 : ((c2.size : Int) == (h : Int)) = true := by rw [e1]; simp
  have HR := Lib.hid (HY.out e0 e1)
  have HXO := Lib.hid (fun W => l4Other_any W c0 c2 m (by omega) (by omega) (by omega))
  have q1 : ¬ 9223372036854775807 < c0.size + ((xorS c2 c0).extract 0 m).size := by have := xorS_size c2 c0; rw [ByteArray.size_extract]; omega
  clear HY HN1 HN2 e0 e1
  generalize (xorS c2 c0).extract 0 m = xr at *
  go_enter Try.func58, Try.ntmps58
  go_wp2_with (first | (go_at_call 56; refine Calls.mono (l6In_any _ _ _ _) ?_; rintro e w' ⟨rfl, rfl⟩) | (go_at_call 83; refine Calls.mono (HH.out _) ?_; rintro e w' ⟨rfl, rfl⟩))
  refine wp_quiet_b (by kernel_rfl) (by kernel_rfl) (fun hgrow => ?_)
  repeat (go_big_quiet_step ((go_at_call 84; exact quiet_b (HXO.out _))))
  refine wpQuiet_nil ?_
  intro w2 hww2
  replace hww2 := below_of_regrown hww2
  clear hgrow
  go_wp2_with fail
  go_ret2
  exact ⟨by rw [HR.out]; rfl, by have := HBa.out; have := hww2; (repeat (first | assumption | exact Below.refl _ _ | refine below_alloc ?_ _ | refine Below.drew ?_ | refine below_drewN ?_ _ | refine below_set ?_ (by first | exact Nat.le_refl _ | omega | (simp; done) | (simp; omega)) _ | refine below_kp ?_ (by assumption) (by simp) | refine below_below ?_ (by assumption)))⟩

end Go.Proofs.Ytamljoffmkcbnaa
