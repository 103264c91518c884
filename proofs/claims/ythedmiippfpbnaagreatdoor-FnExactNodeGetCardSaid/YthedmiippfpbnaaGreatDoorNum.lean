/- Numbers: both texts' walks. -/
import Derived.Test.YthedmiippfpbnaaGreatDoorTextPlain
import Derived.Test.YthedmiippfpbnaaGreatDoorShelf
import Derived.Test.YthedmiippfpbnaaGreatDoorMark
import Derived.Test.YthedmiippfpbnaaGreatDoorQuiet
import Derived.Lib.LaidTab
import Derived.Deep.DrawnRows
import Derived.Lib.AppendIntMem
namespace Go.Proofs.YthedmiippfpbnaaGreatDoor
open Go.RowKit
set_option maxRecDepth 100000
set_option linter.unusedVariables false
set_option linter.unusedSimpArgs false
attribute [local go_sem ↓] Go.wp_at_zero Go.wp_at_succ

/-- The table of powers of ten lies there. -/
def TenAt (w : World) : Prop := Lib.TabIs Tryz.prog w "internal/strconv.uint64pow10" .u64 Lib.pow10Tab
theorem TenAt.below {w w' : World} (h : TenAt w) (hb : Below w.heap.size w w') : TenAt w' := by
  unfold TenAt Lib.TabIs World.var? at *
  cases hg : Tryz.prog.globalNamed "internal/strconv.uint64pow10" with
  | none => simp [hg] at h
  | some g =>
    simp only [hg, Option.bind_some] at h ⊢
    have hlt : g < w.heap.size := by
      rcases Nat.lt_or_ge g w.heap.size with hl | hl
      · exact hl
      · rw [Array.getElem?_eq_none hl] at h; cases h
    rw [hb.block g hlt]
    exact h
/-- The variable of the syntax error holds an error. -/
def ErrAt (w : World) : Prop := ∃ ev, w.cell? ⟨1, 0, none⟩ = some ev ∧ (ev = .nilIface ∨ ∃ te pe, ev = .iface te pe)
theorem ErrAt.below {w w' : World} (h : ErrAt w) (hb : Below w.heap.size w w') : ErrAt w' := by
  obtain ⟨ev, h1, h2⟩ := h
  refine ⟨ev, ?_, h2⟩
  have hl : 1 < w.heap.size := Lib.lt_of_cell h1
  exact ((bcell hb).1 _ 0 hl).trans h1


theorem decT_small {n : Int} (h0 : 0 ≤ n) (h : n < 10) : decT n = ⟨#[UInt8.ofNat (48 + n.toNat)]⟩ := by
  rw [decT, decL, dec_small (by omega)]
  rfl
theorem decT_big {n : Int} (h : 10 ≤ n) : decT n = decT (n / 10) ++ ⟨#[UInt8.ofNat (48 + (n % 10).toNat)]⟩ := by
  refine ofL_ext ?_
  rw [decT_data, bytes_append, decT_data, decL, decL, dec_big (by omega)]
  have e1 : (n / 10).toNat = n.toNat / 10 := by omega
  have e2 : (n % 10).toNat = n.toNat % 10 := by omega
  rw [e1, e2]

theorem und_b : Tryz.prog.underlying 69 = some (.slice 5) := Tryz.underlying69
/-- A digit's text out of a row of one byte. -/
theorem digit_text (W : World) (x : Int) (n c : Nat) (hn : n < 256) (hx : x = (n : Int)) : (convert 69 9 (.slice (some ⟨W.heap.size, 0, none⟩) 1 c)).run Tryz.prog (W.alloc (.cells #[.int .u8 x] 5)) = .ok (.string ⟨#[UInt8.ofNat n]⟩) (W.alloc (.cells #[.int .u8 x] 5)) :=
  back_one W 69 5 Tryz.underlying69 Tryz.underlying5 n hn x hx c
theorem digit_at (W : World) (b : Nat) (x : Int) (n c : Nat) (hn : n < 256) (hx : x = (n : Int)) (hc : W.cell? ⟨b, 0, none⟩ = some (.int .u8 x)) : (convert 69 9 (.slice (some ⟨b, 0, none⟩) 1 c)).run Tryz.prog W = .ok (.string ⟨#[UInt8.ofNat n]⟩) W := by
  subst hx
  exact run_convert_bytes_back (P := Tryz.prog) W 69 9 5 ⟨b, 0, none⟩ c [UInt8.ofNat n] Tryz.underlying69 Tryz.underlying5 Tryz.underlying9 (fun j hj => by
    have : j = 0 := by simpa using hj
    subst this
    have e : (UInt8.ofNat n).toNat = n := by simp; omega
    have ea : (⟨b, 0, none⟩ : Addr).add 0 = ⟨b, 0, none⟩ := by unfold Addr.add; simp
    rw [ea, hc]
    simp [e])
theorem cell_new (w : World) (x : Value) (T : TypeId) {w2 : World} (hB : Below (w.alloc (.cells #[x] T)).drew.heap.size (w.alloc (.cells #[x] T)).drew w2) : w2.cell? ⟨w.heap.size, 0, none⟩ = some x := by
  have hlt : w.heap.size < (w.alloc (.cells #[x] T)).heap.size := by rw [World.size_alloc]; omega
  have h := hB.block w.heap.size hlt
  have h2 : (w.alloc (.cells #[x] T)).heap[w.heap.size]? = some (.cells #[x] T) := heap_alloc_new w _
  have h3 : w2.heap[w.heap.size]? = some (.cells #[x] T) := h.trans h2
  simp [World.cell?, h3]
theorem below_new (w : World) (o : Obj) {w2 : World} (hB : Below (w.alloc o).drew.heap.size (w.alloc o).drew w2) : Below w.heap.size w w2 :=
  below_below (Below.drew (below_alloc (Below.refl _ _) o)) hB
set_option maxHeartbeats 4000000 in
theorem dec_any (k : Nat) : ∀ (w : World), k ≤ 9223372036854775807 → Calls Tryz.prog 25 #[.int .i64 k] w fun e w' => e = .returned (.string (decT k)) ∧ Below w.heap.size w w' := by
  induction k using Nat.strongRecOn with
  | _ k ih =>
    intro w hk
    by_cases h : k < 10
    · have e : decT (k : Int) = ⟨#[48 + UInt8.ofNat k]⟩ := by rw [decT_small (by omega) (by omega)]; simp
      rw [e]
      clear e
      have hw : IntKind.i64.wrap (48 + (k : Int)) = 48 + (k : Int) := IntWalk.i64_in _ (by omega)
      have hu : IntKind.u8.wrap (48 + (k : Int)) = 48 + (k : Int) := IntWalk.u8_in _ (by omega)
      have hc1 := digit_text w (48 + (k : Int)) (48 + k) 1 (by omega) (by omega)
      go_enter Tryz.func25, Tryz.ntmps25
      go_wp2_with fail
      go_ret
      exact ⟨rfl, below_alloc (Below.refl _ _) _⟩
    · obtain ⟨q, hq⟩ : ∃ q, q = k / 10 := ⟨_, rfl⟩
      obtain ⟨r, hr⟩ : ∃ r, r = k % 10 := ⟨_, rfl⟩
      have e : decT (k : Int) = decT (q : Int) ++ ⟨#[48 + UInt8.ofNat r]⟩ := by
        rw [decT_big (by omega)]
        have e1 : (k : Int) / 10 = (q : Int) := by omega
        have e2 : ((k : Int) % 10).toNat = r := by omega
        rw [e1, e2]
        simp
      rw [e]
      have hdq : (k : Int) / 10 = (q : Int) := by omega
      have hdr : (k : Int) % 10 = (r : Int) := by omega
      have hr10 : r < 10 := by omega
      have hd1 : Int.tdiv (k : Int) 10 = (q : Int) := by rw [Int.tdiv_eq_ediv_of_nonneg (by omega)]; exact hdq
      have hd2 : Int.tmod (k : Int) 10 = (r : Int) := by rw [Int.tmod_eq_emod_of_nonneg (by omega)]; exact hdr
      have hd3 : IntKind.i64.wrap (q : Int) = (q : Int) := IntWalk.i64_in _ (by omega)
      have hw : IntKind.i64.wrap (48 + (r : Int)) = 48 + (r : Int) := IntWalk.i64_in _ (by omega)
      have hu : IntKind.u8.wrap (48 + (r : Int)) = 48 + (r : Int) := IntWalk.u8_in _ (by omega)
      have HI := Lib.hid (fun w => ih q (by omega) w (by omega))
      have hh : ¬ (k : Int) < 10 := by omega
      have hz0 : (decT (q : Int)).size ≤ 20 := by
        have h10 : (10 : Nat) ^ (19 + 1) = 100000000000000000000 := by decide
        have := dec_len 19 q (by omega)
        rw [decT, ofL_size, decL, Int.toNat_natCast]
        omega
      have hz1 : ¬ 9223372036854775807 < (decT (q : Int)).size + (⟨#[48 + UInt8.ofNat r]⟩ : ByteArray).size := by
        have : (⟨#[48 + UInt8.ofNat r]⟩ : ByteArray).size = 1 := rfl
        omega
      have hz2 : ¬ 9223372036854775807 < (decT (q : Int)).size + 1 := by omega
      have HD := Lib.hid (fun W b h => digit_at W b (48 + (r : Int)) (48 + r) 1 (by omega) (by omega) h)
      have hD := fun W => digit_text W (48 + (r : Int)) (48 + r) 1 (by omega) (by omega)
      have hE := HD.out (w.alloc (.cells #[.int .u8 (48 + (r : Int))] 5)).drew w.heap.size (cell_new w _ _ (Below.refl _ _))
      clear hq hr e ih
      go_enter Tryz.func25, Tryz.ntmps25
      go_wp2_with fail
      go_region_with (first
        | (go_at_call 25; refine Calls.mono (HI.out w.drew) ?_; rintro e w2 ⟨rfl, hB2⟩; have hs2 := hB2.size; have HB2 := Lib.hid (below_below (Below.drew (Below.refl w.heap.size w)) hB2); clear hB2)
        | (go_at_call 25; refine Calls.mono (HI.out (w.alloc (.cells #[.int .u8 (48 + (r : Int))] 5)).drew) ?_; rintro e w2 ⟨rfl, hB2⟩; have hd2 := HD.out w2 w.heap.size (cell_new w _ _ hB2); have HB2 := Lib.hid (below_new w _ hB2); clear hB2))
      all_goals
        go_wp2_with fail
        go_ret
        exact ⟨rfl, by first | exact HB2.out | exact below_alloc HB2.out _⟩

theorem numPut_any (n : Int) (w : World) (hT : TenAt w) : Calls Tryz.prog 30 #[.int .i64 n] w fun e w' => e = .returned (.string (numT n)) ∧ Below w.heap.size w w' := by
  cases h : inB n 0 999999999
  · rw [numT_out h]
    go_enter Tryz.func30, Tryz.ntmps30
    go_wp2_with fail
    refine Calls.mono (within_any _ _ _ _) ?_
    rintro e w2 ⟨rfl, rfl⟩
    rw [h]
    go_wp2_with fail
    go_ret
    exact ⟨rfl, Below.refl _ _⟩
  · obtain ⟨h0, h1⟩ := inB_true h
    have e : numT n = ⟨(Lib.itoa n).toArray⟩ := if_pos h
    have HI := Lib.hid (Tryz.strconv_Itoa n (by omega) (by omega) w hT)
    rw [e]
    clear e
    generalize (⟨(Lib.itoa n).toArray⟩ : ByteArray) = r at *
    go_enter Tryz.func30, Tryz.ntmps30
    go_wp2_with fail
    refine Calls.mono (within_any _ _ _ _) ?_
    rintro e w2 ⟨rfl, rfl⟩
    rw [h]
    go_wp2_with fail
    refine Calls.mono HI.out ?_
    rintro e w2 ⟨rfl, k, os, rfl⟩
    have HB := Lib.hid (Lib.below_grow _ w (Nat.le_refl _) k os)
    go_wp2_with fail
    go_ret
    exact ⟨rfl, HB.out⟩
set_option maxHeartbeats 1600000 in
theorem numGet_any (s : ByteArray) (w : World) (hT : TenAt w) (hE : ErrAt w) (hs : s.size ≤ 9223372036854775807) : Calls Tryz.prog 13 #[.string s] w fun e w' => e = .returned (.tuple #[.int .i64 (numV s), .bool (numB s)]) ∧ Below w.heap.size w w' := by
  by_cases h9 : 9 < s.size
  · have hb : numB s = false := by
      cases h : numB s
      · rfl
      · have := numB_size h; omega
    rw [numV_miss hb, hb]
    go_enter Tryz.func13, Tryz.ntmps13
    go_wp2_with fail
    go_ret2
    exact ⟨rfl, Below.refl _ _⟩
  · cases ha : Lib.atoi s.data.toList with
    | none =>
      have hb : numB s = false := by
        cases h : numB s
        · rfl
        · rw [atoi_hit h] at ha; cases ha
      obtain ⟨ev, hv, hev⟩ := hE
      have HA := Lib.hid (Tryz.strconv_Atoi_err s (by omega) ha ev w hv hev)
      rw [numV_miss hb, hb]
      clear hv hev ha
      go_enter Tryz.func13, Tryz.ntmps13
      go_wp2_with fail
      refine Calls.mono HA.out ?_
      rintro e w2 ⟨N, rfl, hN, _, hB⟩
      have HB := Lib.hid hB
      clear hB
      go_wp2_with fail
      go_ret2
      exact ⟨rfl, HB.out⟩
    | some v =>
      have HA := Lib.hid (Tryz.strconv_Atoi s v (by omega) ha w)
      cases hb : numB s
      · have hne := atoi_miss hb ha
        have hq : ((numT v).toList == s.toList) = false := by
          cases h : ((numT v).toList == s.toList)
          · rfl
          · rw [beq_iff_eq, Lib.toList_data, Lib.toList_data] at h
            exact absurd (ofL_ext h) hne
        rw [numV_miss hb]
        clear ha hne
        go_enter Tryz.func13, Tryz.ntmps13
        go_wp2_with fail
        refine Calls.mono HA.out ?_
        rintro e w2 ⟨rfl, t, rfl⟩
        have HB := Lib.hid (Lib.bytesWorld_below w 5 t)
        go_wp2_with fail
        refine Calls.mono (numPut_any v _ (hT.below HB.out)) ?_
        rintro e w3 ⟨rfl, hB⟩
        have HB3 := Lib.hid (below_below HB.out hB)
        clear hB
        go_wp2_with fail
        go_ret2
        exact ⟨rfl, HB3.out⟩
      · have hv : v = numV s := by rw [atoi_hit hb] at ha; exact (Option.some.inj ha).symm
        have e := numB_put hb
        subst hv
        clear ha
        go_enter Tryz.func13, Tryz.ntmps13
        go_wp2_with fail
        refine Calls.mono HA.out ?_
        rintro e w2 ⟨rfl, t, rfl⟩
        have HB := Lib.hid (Lib.bytesWorld_below w 5 t)
        go_wp2_with fail
        refine Calls.mono (numPut_any (numV s) _ (hT.below HB.out)) ?_
        rintro e' w3 ⟨rfl, hB⟩
        have HB3 := Lib.hid (below_below HB.out hB)
        rw [e]
        clear hB
        go_wp2_with fail
        go_ret2
        exact ⟨rfl, HB3.out⟩
theorem take_dig {s : ByteArray} {k : Nat} (hk : k < s.size) : s.data.toList.take (k + 1) = s.data.toList.take k ++ [s[k]] := by
  have h : k < s.data.toList.length := by rw [Array.length_toList]; exact hk
  rw [List.take_add_one, List.getElem?_eq_getElem h]
  rfl
theorem l1_end {s : ByteArray} {k : Nat} {n : Int} (h9 : k ≤ 9) (hk : k ≤ s.size) (hd : ∀ b ∈ s.data.toList.take k, digB b = true) (hn : n = (valL (s.data.toList.take k) : Int))
    (he : k = s.size ∨ k = 9 ∨ ∃ h : k < s.size, digB s[k] = false) : (l1N s = if zeroB s.data.toList = true then 0 else n) ∧ (l1K s = if zeroB s.data.toList = true then 1 else k) ∧ (zeroB s.data.toList = (decide (1 < k) && s.data.toList.head? == some 48)) := by
  have hl : s.data.toList.length = s.size := Array.length_toList
  have e : leadL s.data.toList = s.data.toList.take k := leadL_take h9 (by omega) hd (by
    rcases he with h | h | ⟨h, h2⟩
    · exact .inl (by omega)
    · exact .inr (.inl h)
    · exact .inr (.inr ⟨s[k], by rw [List.getElem?_eq_getElem (by omega)]; rfl, h2⟩))
  have e2 : (s.data.toList.take k).length = k := by rw [List.length_take]; omega
  refine ⟨by rw [l1N, e, hn], by rw [l1K, e, e2], by rw [zeroB, e, e2]⟩
theorem head_at {s : ByteArray} (h : 0 < s.size) : s.data.toList.head? = some s[0] := by
  have h' : 0 < s.data.toList.length := by rw [Array.length_toList]; exact h
  rw [List.head?_eq_getElem?, List.getElem?_eq_getElem h']
  rfl
set_option maxHeartbeats 4000000 in
theorem l1Num_any (s : ByteArray) (w : World) (hs : s.size ≤ 9223372036854775807) : Calls Tryz.prog 17 #[.string s] w fun e w' => e = .returned (.tuple #[.int .i64 (l1N s), .int .i64 (l1K s : Nat)]) ∧ w = w' := by
  have HEND := Lib.hid (fun k n h1 h2 h3 h4 h5 => l1_end (s := s) (k := k) (n := n) h1 h2 h3 h4 h5)
  generalize l1N s = rn at *
  generalize l1K s = rk at *
  go_enter Tryz.func17, Tryz.ntmps17
  go_wp2_with fail
  go_loop [4, 5] (fun x i => ∃ (k : Nat) (a : Int), k ≤ s.size ∧ k ≤ 9 ∧ i = .int .i64 k ∧ x = .int .i64 a ∧ 0 ≤ a ∧ a ≤ 999999999 ∧ (k < 9 → a ≤ 99999999) ∧ Hid (∀ b ∈ s.data.toList.take k, digB b = true) ∧ Hid (a = (valL (s.data.toList.take k) : Int))) (fun _ i => 9 - (intOf i).toNat)
  case atStart => exact ⟨0, 0, Nat.zero_le _, by omega, rfl, rfl, by omega, by omega, by omega, Lib.hid (by simp), Lib.hid (by simp; rfl)⟩
  case round =>
    obtain ⟨k, a, hk, hk9, rfl, rfl, ha0, ha1, ha2, HD, HV⟩ := hrel
    have hbd : k ≤ 9 := hk9
    by_cases c1 : k < s.size
    · by_cases c2 : k < 9
      · by_cases c3 : 48 ≤ (s[k]).toNat
        · by_cases c4 : (s[k]).toNat ≤ 57
          · have HD2 := Lib.hid (show ∀ b ∈ s.data.toList.take (k + 1), digB b = true from fun b hb => by
              rw [take_dig c1, List.mem_append, List.mem_singleton] at hb
              rcases hb with hb | rfl
              · exact HD.out b hb
              · exact digB_iff.2 ⟨c3, c4⟩)
            have HV2 := Lib.hid (show 10 * a + (((s[k]).toNat : Int) - 48) = (valL (s.data.toList.take (k + 1)) : Int) by
              rw [take_dig c1, valL_snoc, HV.out]
              omega)
            have HB2 := Lib.hid (show 10 * a + (((s[k]).toNat : Int) - 48) ≤ 999999999 ∧ (k + 1 < 9 → 10 * a + (((s[k]).toNat : Int) - 48) ≤ 99999999) from by
              have h1 := ha2 c2
              refine ⟨by omega, fun h => ?_⟩
              have h2 := valL_lt HD2.out
              have h3 : (s.data.toList.take (k + 1)).length = k + 1 := by rw [List.length_take, Array.length_toList]; have : s.data.size = s.size := rfl; omega
              have h4 : 10 ^ (k + 1) ≤ 10 ^ 8 := Nat.pow_le_pow_right (by omega) (by omega)
              rw [h3] at h2
              have h5 : (10 : Nat) ^ 8 = 100000000 := by decide
              rw [HV2.out]
              omega)
            have hsub : IntKind.u8.wrap (((s[k]).toNat : Int) - 48) = ((s[k]).toNat : Int) - 48 := IntWalk.u8_in _ (by omega)
            have hb0 := ha2 c2
            clear HEND HD HV
            go_wp2_with fail
            exact ⟨⟨k + 1, _, by omega, by omega, by go_num, rfl, by omega, HB2.out.1, HB2.out.2, HD2, HV2⟩, by simp [intOf]; omega⟩
          · have hdn : digB s[k] = false := by rw [digB]; exact decide_eq_false (by omega)
            obtain ⟨e1, e2, e3⟩ := HEND.out k a hk9 hk HD.out HV.out (.inr (.inr ⟨c1, hdn⟩))
            by_cases h0 : 1 < k
            · have hs0 : 0 < s.size := by omega
              have hh : s.data.toList.head? = some s[0] := head_at hs0
              by_cases hz : (s[0]).toNat = 48
              · have hzz : s[0] = 48 := UInt8.toNat_inj.1 hz
                rw [e3, hh, hzz] at e1 e2
                simp only [h0, decide_true, beq_self_eq_true, Bool.and_self, if_true] at e1 e2
                subst e1 e2
                clear e3 hh HEND HD HV hzz
                go_wp2_with fail
                go_ret2
                exact ⟨rfl, rfl⟩
              · have hzz : ¬ s[0] = 48 := fun h => hz (by rw [h]; rfl)
                have hzb : (some s[0] == some (48 : UInt8)) = false := by simpa using hzz
                rw [e3, hh, hzb] at e1 e2
                simp only [Bool.and_false, Bool.false_eq_true, if_false] at e1 e2
                subst e1 e2
                clear e3 hh HEND HD HV hzz hzb
                go_wp2_with fail
                go_ret2
                exact ⟨rfl, rfl⟩
            · rw [e3] at e1 e2
              simp only [h0, decide_false, Bool.false_and, Bool.false_eq_true, if_false] at e1 e2
              subst e1 e2
              clear e3 HEND HD HV
              go_wp2_with fail
              go_ret2
              exact ⟨rfl, rfl⟩
        · have hdn : digB s[k] = false := by rw [digB]; exact decide_eq_false (by omega)
          obtain ⟨e1, e2, e3⟩ := HEND.out k a hk9 hk HD.out HV.out (.inr (.inr ⟨c1, hdn⟩))
          by_cases h0 : 1 < k
          · have hs0 : 0 < s.size := by omega
            have hh : s.data.toList.head? = some s[0] := head_at hs0
            by_cases hz : (s[0]).toNat = 48
            · have hzz : s[0] = 48 := UInt8.toNat_inj.1 hz
              rw [e3, hh, hzz] at e1 e2
              simp only [h0, decide_true, beq_self_eq_true, Bool.and_self, if_true] at e1 e2
              subst e1 e2
              clear e3 hh HEND HD HV hzz
              go_wp2_with fail
              go_ret2
              exact ⟨rfl, rfl⟩
            · have hzz : ¬ s[0] = 48 := fun h => hz (by rw [h]; rfl)
              have hzb : (some s[0] == some (48 : UInt8)) = false := by simpa using hzz
              rw [e3, hh, hzb] at e1 e2
              simp only [Bool.and_false, Bool.false_eq_true, if_false] at e1 e2
              subst e1 e2
              clear e3 hh HEND HD HV hzz hzb
              go_wp2_with fail
              go_ret2
              exact ⟨rfl, rfl⟩
          · rw [e3] at e1 e2
            simp only [h0, decide_false, Bool.false_and, Bool.false_eq_true, if_false] at e1 e2
            subst e1 e2
            clear e3 HEND HD HV
            go_wp2_with fail
            go_ret2
            exact ⟨rfl, rfl⟩
      · have hk9' : k = 9 := by omega
        obtain ⟨e1, e2, e3⟩ := HEND.out k a hk9 hk HD.out HV.out (.inr (.inl hk9'))
        by_cases h0 : 1 < k
        · have hs0 : 0 < s.size := by omega
          have hh : s.data.toList.head? = some s[0] := head_at hs0
          by_cases hz : (s[0]).toNat = 48
          · have hzz : s[0] = 48 := UInt8.toNat_inj.1 hz
            rw [e3, hh, hzz] at e1 e2
            simp only [h0, decide_true, beq_self_eq_true, Bool.and_self, if_true] at e1 e2
            subst e1 e2
            clear e3 hh HEND HD HV hzz
            go_wp2_with fail
            go_ret2
            exact ⟨rfl, rfl⟩
          · have hzz : ¬ s[0] = 48 := fun h => hz (by rw [h]; rfl)
            have hzb : (some s[0] == some (48 : UInt8)) = false := by simpa using hzz
            rw [e3, hh, hzb] at e1 e2
            simp only [Bool.and_false, Bool.false_eq_true, if_false] at e1 e2
            subst e1 e2
            clear e3 hh HEND HD HV hzz hzb
            go_wp2_with fail
            go_ret2
            exact ⟨rfl, rfl⟩
        · exact absurd (show 1 < k by omega) h0
    · have hks : k = s.size := by omega
      obtain ⟨e1, e2, e3⟩ := HEND.out k a hk9 hk HD.out HV.out (.inl hks)
      by_cases h0 : 1 < k
      · have hs0 : 0 < s.size := by omega
        have hh : s.data.toList.head? = some s[0] := head_at hs0
        by_cases hz : (s[0]).toNat = 48
        · have hzz : s[0] = 48 := UInt8.toNat_inj.1 hz
          rw [e3, hh, hzz] at e1 e2
          simp only [h0, decide_true, beq_self_eq_true, Bool.and_self, if_true] at e1 e2
          subst e1 e2
          clear e3 hh HEND HD HV hzz
          go_wp2_with fail
          go_ret2
          exact ⟨rfl, rfl⟩
        · have hzz : ¬ s[0] = 48 := fun h => hz (by rw [h]; rfl)
          have hzb : (some s[0] == some (48 : UInt8)) = false := by simpa using hzz
          rw [e3, hh, hzb] at e1 e2
          simp only [Bool.and_false, Bool.false_eq_true, if_false] at e1 e2
          subst e1 e2
          clear e3 hh HEND HD HV hzz hzb
          go_wp2_with fail
          go_ret2
          exact ⟨rfl, rfl⟩
      · rw [e3] at e1 e2
        simp only [h0, decide_false, Bool.false_and, Bool.false_eq_true, if_false] at e1 e2
        subst e1 e2
        clear e3 HEND HD HV
        go_wp2_with fail
        go_ret2
        exact ⟨rfl, rfl⟩
theorem specNumGet_any (s : ByteArray) (w : World) (hs : s.size ≤ 9223372036854775807) : Calls Tryz.prog 8 #[.string s] w fun e w' => e = .returned (.tuple #[.int .i64 (numV s), .bool (numB s)]) ∧ w = w' := by
  have HL := Lib.hid (fun w => l1Num_any s w hs)
  obtain ⟨h1, h2⟩ := l1_num s
  have hb := l1_bounds s
  cases hnb : numB s
  · rw [numV_miss hnb]
    rw [hnb] at h1
    generalize l1N s = n at *
    generalize l1K s = k at *
    by_cases hk0 : k = 0
    · subst hk0
      clear h1 h2 hb hnb
      go_enter Tryz.func8, Tryz.ntmps8
      go_wp2_with fail
      refine Calls.mono (HL.out _) ?_
      rintro e w2 ⟨rfl, rfl⟩
      go_wp2_with fail
      go_ret2
      exact ⟨rfl, rfl⟩
    · have hks : ¬ k = s.size := by simpa [hk0] using h1
      clear h1 h2 hnb
      go_enter Tryz.func8, Tryz.ntmps8
      go_wp2_with fail
      refine Calls.mono (HL.out _) ?_
      rintro e w2 ⟨rfl, rfl⟩
      have e1 : ((k : Int) == 0) = false := by simpa using hk0
      have e2 : ((k : Int) != (s.size : Int)) = true := by simp; omega
      go_wp2_with fail
      go_ret2
      exact ⟨rfl, rfl⟩
  · rw [h2 hnb]
    rw [hnb] at h1
    generalize l1N s = n at *
    generalize l1K s = k at *
    have h1' := h1.symm
    simp only [Bool.and_eq_true, decide_eq_true_eq] at h1'
    obtain ⟨hk0, hks⟩ := h1'
    clear h1 h2 hnb
    go_enter Tryz.func8, Tryz.ntmps8
    go_wp2_with fail
    refine Calls.mono (HL.out _) ?_
    rintro e w2 ⟨rfl, rfl⟩
    have e1 : ((k : Int) == 0) = false := by simpa using hk0
    have e2 : ((k : Int) != (s.size : Int)) = false := by simp; omega
    clear hks
    go_wp2_with fail
    go_ret2
    exact ⟨rfl, rfl⟩

end Go.Proofs.YthedmiippfpbnaaGreatDoor
