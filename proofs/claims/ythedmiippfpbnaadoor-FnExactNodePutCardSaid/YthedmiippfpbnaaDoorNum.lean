/- Numbers: both texts' walks. -/
import Derived.Test.YthedmiippfpbnaaDoorTextPlain
import Derived.Test.YthedmiippfpbnaaDoorShelf
import Derived.Test.YthedmiippfpbnaaDoorMark
import Derived.Test.YthedmiippfpbnaaDoorQuiet
import Derived.Lib.LaidTab
import Derived.Deep.DrawnRows
import Derived.Lib.AppendIntMem
namespace Go.Proofs.YthedmiippfpbnaaDoor
open Go.RowKit
set_option maxRecDepth 100000
set_option linter.unusedVariables false
set_option linter.unusedSimpArgs false
attribute [local go_sem ↓] Go.wp_at_zero Go.wp_at_succ

/-- The table of powers of ten lies there. -/
def TenAt (w : World) : Prop := Lib.TabIs Tryd.prog w "internal/strconv.uint64pow10" .u64 Lib.pow10Tab
theorem TenAt.below {w w' : World} (h : TenAt w) (hb : Below w.heap.size w w') : TenAt w' := by
  unfold TenAt Lib.TabIs World.var? at *
  cases hg : Tryd.prog.globalNamed "internal/strconv.uint64pow10" with
  | none => simp [hg] at h
  | some g =>
    simp only [hg, Option.bind_some] at h ⊢
    have hlt : g < w.heap.size := by
      rcases Nat.lt_or_ge g w.heap.size with hl | hl
      · exact hl
      · rw [Array.getElem?_eq_none hl] at h; cases h
    rw [hb.block g hlt]
    exact h
theorem decT_small {n : Int} (h0 : 0 ≤ n) (h : n < 10) : decT n = ⟨#[UInt8.ofNat (48 + n.toNat)]⟩ := by
  rw [decT, decL, dec_small (by omega)]
  rfl
theorem decT_big {n : Int} (h : 10 ≤ n) : decT n = decT (n / 10) ++ ⟨#[UInt8.ofNat (48 + (n % 10).toNat)]⟩ := by
  refine ofL_ext ?_
  rw [decT_data, bytes_append, decT_data, decL, decL, dec_big (by omega)]
  have e1 : (n / 10).toNat = n.toNat / 10 := by omega
  have e2 : (n % 10).toNat = n.toNat % 10 := by omega
  rw [e1, e2]

theorem und_b : Tryd.prog.underlying 49 = some (.slice 5) := Tryd.underlying49
/-- A digit's text out of a row of one byte. -/
theorem digit_text (W : World) (x : Int) (n c : Nat) (hn : n < 256) (hx : x = (n : Int)) : (convert 49 9 (.slice (some ⟨W.heap.size, 0, none⟩) 1 c)).run Tryd.prog (W.alloc (.cells #[.int .u8 x] 5)) = .ok (.string ⟨#[UInt8.ofNat n]⟩) (W.alloc (.cells #[.int .u8 x] 5)) :=
  back_one W 49 5 Tryd.underlying49 Tryd.underlying5 n hn x hx c
theorem digit_at (W : World) (b : Nat) (x : Int) (n c : Nat) (hn : n < 256) (hx : x = (n : Int)) (hc : W.cell? ⟨b, 0, none⟩ = some (.int .u8 x)) : (convert 49 9 (.slice (some ⟨b, 0, none⟩) 1 c)).run Tryd.prog W = .ok (.string ⟨#[UInt8.ofNat n]⟩) W := by
  subst hx
  exact run_convert_bytes_back (P := Tryd.prog) W 49 9 5 ⟨b, 0, none⟩ c [UInt8.ofNat n] Tryd.underlying49 Tryd.underlying5 Tryd.underlying9 (fun j hj => by
    have : j = 0 := by simpa using hj
    subst this
    have e : (UInt8.ofNat n).toNat = n := by simp; omega
    have ea : (⟨b, 0, none⟩ : Addr).add 0 = ⟨b, 0, none⟩ := by unfold Addr.add; simp
    rw [ea, hc]
    simp [e])
theorem cell_new (w : World) (x : Value) (T : TypeId) {w2 : World} (hB : Below (w.alloc (.cells #[x] T)).drew.heap.size (w.alloc (.cells #[x] T)).drew w2) : w2.cell? ⟨w.heap.size, 0, none⟩ = some x := by
  have hlt : w.heap.size < (w.alloc (.cells #[x] T)).heap.size := by rw [World.size_alloc]; omega
  have h := hB.block w.heap.size hlt
  have h2 : (w.alloc (.cells #[x] T)).heap[w.heap.size]? = some (.cells #[x] T) := heap_alloc_new w _
  have h3 : w2.heap[w.heap.size]? = some (.cells #[x] T) := h.trans h2
  simp [World.cell?, h3]
theorem below_new (w : World) (o : Obj) {w2 : World} (hB : Below (w.alloc o).drew.heap.size (w.alloc o).drew w2) : Below w.heap.size w w2 :=
  below_below (Below.drew (below_alloc (Below.refl _ _) o)) hB
set_option maxHeartbeats 4000000 in
theorem dec_any (k : Nat) : ∀ (w : World), k ≤ 9223372036854775807 → Calls Tryd.prog 9 #[.int .i64 k] w fun e w' => e = .returned (.string (decT k)) ∧ Below w.heap.size w w' := by
  induction k using Nat.strongRecOn with
  | _ k ih =>
    intro w hk
    by_cases h : k < 10
    · have e : decT (k : Int) = ⟨#[48 + UInt8.ofNat k]⟩ := by rw [decT_small (by omega) (by omega)]; simp
      rw [e]
      clear e
      have hw : IntKind.i64.wrap (48 + (k : Int)) = 48 + (k : Int) := IntWalk.i64_in _ (by omega)
      have hu : IntKind.u8.wrap (48 + (k : Int)) = 48 + (k : Int) := IntWalk.u8_in _ (by omega)
      have hc1 := digit_text w (48 + (k : Int)) (48 + k) 1 (by omega) (by omega)
      go_enter Tryd.func9, Tryd.ntmps9
      go_wp2_with fail
      go_ret
      exact ⟨rfl, below_alloc (Below.refl _ _) _⟩
    · obtain ⟨q, hq⟩ : ∃ q, q = k / 10 := ⟨_, rfl⟩
      obtain ⟨r, hr⟩ : ∃ r, r = k % 10 := ⟨_, rfl⟩
      have e : decT (k : Int) = decT (q : Int) ++ ⟨#[48 + UInt8.ofNat r]⟩ := by
        rw [decT_big (by omega)]
        have e1 : (k : Int) / 10 = (q : Int) := by omega
        have e2 : ((k : Int) % 10).toNat = r := by omega
        rw [e1, e2]
        simp
      rw [e]
      have hdq : (k : Int) / 10 = (q : Int) := by omega
      have hdr : (k : Int) % 10 = (r : Int) := by omega
      have hr10 : r < 10 := by omega
      have hd1 : Int.tdiv (k : Int) 10 = (q : Int) := by rw [Int.tdiv_eq_ediv_of_nonneg (by omega)]; exact hdq
      have hd2 : Int.tmod (k : Int) 10 = (r : Int) := by rw [Int.tmod_eq_emod_of_nonneg (by omega)]; exact hdr
      have hd3 : IntKind.i64.wrap (q : Int) = (q : Int) := IntWalk.i64_in _ (by omega)
      have hw : IntKind.i64.wrap (48 + (r : Int)) = 48 + (r : Int) := IntWalk.i64_in _ (by omega)
      have hu : IntKind.u8.wrap (48 + (r : Int)) = 48 + (r : Int) := IntWalk.u8_in _ (by omega)
      have HI := Lib.hid (fun w => ih q (by omega) w (by omega))
      have hh : ¬ (k : Int) < 10 := by omega
      have hz0 : (decT (q : Int)).size ≤ 20 := by
        have h10 : (10 : Nat) ^ (19 + 1) = 100000000000000000000 := by decide
        have := dec_len 19 q (by omega)
        rw [decT, ofL_size, decL, Int.toNat_natCast]
        omega
      have hz1 : ¬ 9223372036854775807 < (decT (q : Int)).size + (⟨#[48 + UInt8.ofNat r]⟩ : ByteArray).size := by
        have : (⟨#[48 + UInt8.ofNat r]⟩ : ByteArray).size = 1 := rfl
        omega
      have hz2 : ¬ 9223372036854775807 < (decT (q : Int)).size + 1 := by omega
      have HD := Lib.hid (fun W b h => digit_at W b (48 + (r : Int)) (48 + r) 1 (by omega) (by omega) h)
      have hD := fun W => digit_text W (48 + (r : Int)) (48 + r) 1 (by omega) (by omega)
      have hE := HD.out (w.alloc (.cells #[.int .u8 (48 + (r : Int))] 5)).drew w.heap.size (cell_new w _ _ (Below.refl _ _))
      clear hq hr e ih
      go_enter Tryd.func9, Tryd.ntmps9
      go_wp2_with fail
      go_region_with (first
        | (go_at_call 9; refine Calls.mono (HI.out w.drew) ?_; rintro e w2 ⟨rfl, hB2⟩; have hs2 := hB2.size; have HB2 := Lib.hid (below_below (Below.drew (Below.refl w.heap.size w)) hB2); clear hB2)
        | (go_at_call 9; refine Calls.mono (HI.out (w.alloc (.cells #[.int .u8 (48 + (r : Int))] 5)).drew) ?_; rintro e w2 ⟨rfl, hB2⟩; have hd2 := HD.out w2 w.heap.size (cell_new w _ _ hB2); have HB2 := Lib.hid (below_new w _ hB2); clear hB2))
      all_goals
        go_wp2_with fail
        go_ret
        exact ⟨rfl, by first | exact HB2.out | exact below_alloc HB2.out _⟩

theorem numPut_any (n : Int) (w : World) (hT : TenAt w) : Calls Tryd.prog 32 #[.int .i64 n] w fun e w' => e = .returned (.string (numT n)) ∧ Below w.heap.size w w' := by
  cases h : inB n 0 999999999
  · rw [numT_out h]
    go_enter Tryd.func32, Tryd.ntmps32
    go_wp2_with fail
    refine Calls.mono (within_any _ _ _ _) ?_
    rintro e w2 ⟨rfl, rfl⟩
    rw [h]
    go_wp2_with fail
    go_ret
    exact ⟨rfl, Below.refl _ _⟩
  · obtain ⟨h0, h1⟩ := inB_true h
    have e : numT n = ⟨(Lib.itoa n).toArray⟩ := if_pos h
    have HI := Lib.hid (Tryd.strconv_Itoa n (by omega) (by omega) w hT)
    rw [e]
    clear e
    generalize (⟨(Lib.itoa n).toArray⟩ : ByteArray) = r at *
    go_enter Tryd.func32, Tryd.ntmps32
    go_wp2_with fail
    refine Calls.mono (within_any _ _ _ _) ?_
    rintro e w2 ⟨rfl, rfl⟩
    rw [h]
    go_wp2_with fail
    refine Calls.mono HI.out ?_
    rintro e w2 ⟨rfl, k, os, rfl⟩
    have HB := Lib.hid (Lib.below_grow _ w (Nat.le_refl _) k os)
    go_wp2_with fail
    go_ret
    exact ⟨rfl, HB.out⟩

end Go.Proofs.YthedmiippfpbnaaDoor
