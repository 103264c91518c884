/- The laws' own helpers over disks: sizes, copies, equality. -/
import Derived.Test.YtamljoffmkcbnaaDisk
import Derived.Test.YtamljoffmkcbnaaDiskS
import Derived.Test.YtamljoffmkcbnaaStrS
import Derived.Deep.SlicePairs
import Derived.Laws.ResultCell
namespace Go.Proofs.Ytamljoffmkcbnaa
open Go.RowKit
set_option maxRecDepth 100000
set_option linter.unusedVariables false
set_option linter.unusedSimpArgs false

def SzR (w : World) (left : Int) (P : Prop) (e : Ending) (w' : World) : Prop := ∃ r : Int, e = .returned (.int .i64 r) ∧ -1 ≤ r ∧ r ≤ left ∧ (0 ≤ r → P) ∧ Below w.heap.size w w'

theorem szWait_any (w : World) (x : Wt) (left : Int) (hn : x.text.size ≤ 9223372036854775807) (h0 : 0 ≤ left) (h1 : left ≤ 1048576) :
    Calls Try.prog 95 #[x.v, .int .i64 left] w (SzR w left True) := by
  obtain ⟨z, s⟩ := x
  unfold Wt.v
  dsimp only at *
  by_cases h : left - (s.size : Int) < 0
  · go_enter Try.func95, Try.ntmps95
    go_wp2
    go_ret
    exact ⟨-1, rfl, by omega, by omega, fun _ => trivial, by (repeat (first | assumption | exact Below.refl _ _ | refine below_alloc ?_ _ | refine Below.drew ?_ | refine below_drewN ?_ _ | refine below_set ?_ (by first | exact Nat.le_refl _ | omega | (simp; done) | (simp; omega)) _ | refine below_kp ?_ (by assumption) (by simp) | refine below_below ?_ (by assumption)))⟩
  · go_enter Try.func95, Try.ntmps95
    go_wp2
    go_ret
    exact ⟨left - s.size, rfl, by omega, by omega, fun _ => trivial, by (repeat (first | assumption | exact Below.refl _ _ | refine below_alloc ?_ _ | refine Below.drew ?_ | refine below_drewN ?_ _ | refine below_set ?_ (by first | exact Nat.le_refl _ | omega | (simp; done) | (simp; omega)) _ | refine below_kp ?_ (by assumption) (by simp) | refine below_below ?_ (by assumption)))⟩

set_option maxHeartbeats 1000000 in
theorem szWaitS_any (w : World) (A : Option Addr) (cap : Nat) (es : List Wt) (left : Int) (h : RdT encW 2 w A es) (hc : es.length ≤ cap) (hm : cap ≤ 9223372036854775807) (hz : ∀ e ∈ es, e.text.size ≤ 9223372036854775807) (h0 : 0 ≤ left) (h1 : left ≤ 1048576) :
    Calls Try.prog 79 #[.slice A es.length cap, .int .i64 left] w (SzR w left (es.length ≤ 1048576)) := by
  have HR := Lib.hid h
  have HZ := Lib.hid hz
  clear h hz
  by_cases hs : left - (es.length : Int) < 0
  · go_enter Try.func79, Try.ntmps79
    go_wp2
    go_ret
    exact ⟨-1, rfl, by omega, by omega, by omega, Below.refl _ _⟩
  · go_enter Try.func79, Try.ntmps79
    go_wp2_with fail
    go_loopw [1, 5] (fun l i wr => ∃ (k : Nat) (r : Int), k ≤ es.length ∧ i = .int .i64 k ∧ l = .int .i64 r ∧ 0 ≤ r ∧ r ≤ left ∧ Below w.heap.size w wr) (fun _ i _ => es.length - (intOf i).toNat)
    case atStart => exact ⟨0, _, Nat.zero_le _, rfl, rfl, by omega, by omega, Below.refl _ _⟩
    case round =>
      obtain ⟨k, r, hk, rfl, rfl, hr0, hr1, hB⟩ := hrel
      have HB := Lib.hid hB
      clear hB
      by_cases hlt : k < es.length
      · obtain ⟨b, off, z, s, rfl, hb, he, c0, c1⟩ := (HR.out.below HB.out).wait hlt
        have HS := Lib.hid (fun W => szWait_any W ⟨z, s⟩ r (HZ.out _ (List.mem_of_getElem? he)) (by omega) (by omega))
        unfold Wt.v at HS
        dsimp only at HS
        clear he
        go_wp2_with fail
        refine Calls.mono (HS.out _) ?_
        rintro e w1 ⟨q, rfl, hq0, hq1, _, hB1⟩
        by_cases hq : q < 0
        · go_wp2_with fail
          go_ret
          exact ⟨-1, rfl, by omega, by omega, by omega, by have := HB.out; (repeat (first | assumption | exact Below.refl _ _ | refine below_alloc ?_ _ | refine Below.drew ?_ | refine below_drewN ?_ _ | refine below_set ?_ (by first | exact Nat.le_refl _ | omega | (simp; done) | (simp; omega)) _ | refine below_kp ?_ (by assumption) (by simp) | refine below_below ?_ (by assumption)))⟩
        · go_wp2_with fail
          go_roundw
          case rel => exact ⟨k + 1, q, by omega, by go_num, rfl, by omega, by omega, by have := HB.out; (repeat (first | assumption | exact Below.refl _ _ | refine below_alloc ?_ _ | refine Below.drew ?_ | refine below_drewN ?_ _ | refine below_set ?_ (by first | exact Nat.le_refl _ | omega | (simp; done) | (simp; omega)) _ | refine below_kp ?_ (by assumption) (by simp) | refine below_below ?_ (by assumption)))⟩
          case measure => simp [intOf]; omega
      · obtain rfl : k = es.length := by omega
        go_wp2_with fail
        go_ret
        exact ⟨r, rfl, by omega, by omega, by omega, HB.out⟩

set_option maxHeartbeats 1000000 in
theorem szDisk_any (w : World) (x : DA) (d : Dk) (left : Int) (h : DRd w x d) (h0 : 0 ≤ left) (h1 : left ≤ 1048576) :
    Calls Try.prog 53 #[x.v, .int .i64 left] w (SzR w left (x.nC ≤ 1048576 ∧ x.nW ≤ 1048576)) := by
  obtain ⟨C, nC, cC, W, nW, cW, g⟩ := x
  have HBw := Lib.hid (below_alloc (Below.refl w.heap.size w) (.cells #[.slice C nC cC, .slice W nW cW, .bool g] 86))
  have BX := Lib.hid (box_new w #[.slice C nC cC, .slice W nW cW, .bool g] 86)
  have E1 := Lib.hid (by have := szStringS_any _ C cC d.cells left (h.cells.below HBw.out) (by rw [h.lC]; exact h.hC) h.mC h.zC h0 h1; rw [h.lC] at this; exact this)
  have E2 := Lib.hid (fun W' (hB : Below w.heap.size w W') (l2 : Int) (g0 : 0 ≤ l2) (g1 : l2 ≤ 1048576) => (by have := szWaitS_any W' W cW d.waits l2 (h.waits.below hB) (by rw [h.lW]; exact h.hW) h.mW h.zW g0 g1; rw [h.lW] at this; exact this))
  clear h
  unfold DA.v
  dsimp only at *
  go_enter Try.func53, Try.ntmps53
  go_wp2_with fail
  refine Calls.mono E1.out ?_
  rintro e w1 ⟨r, rfl, hr0, hr1, hr2, hB⟩
  have HB1 := Lib.hid (below_below HBw.out hB)
  have bx := (BX.out.below hB).cell
  have bl := (BX.out.below hB).lt
  clear hB
  by_cases hn : r < 0
  · go_wp2_with fail
    go_ret
    exact ⟨-1, rfl, by omega, by omega, by omega, HB1.out⟩
  · have E3 := Lib.hid (E2.out _ HB1.out r (by omega) (by omega))
    clear E2
    go_wp2_with fail
    refine Calls.mono E3.out ?_
    rintro e w2 ⟨q, rfl, hq0, hq1, hq2, hB⟩
    have HB2 := Lib.hid (below_below HB1.out hB)
    clear hB bx
    by_cases hn2 : q < 0
    · go_wp2_with fail
      go_ret
      exact ⟨-1, rfl, by omega, by omega, by omega, HB2.out⟩
    · go_wp2_with fail
      go_ret
      exact ⟨q, rfl, by omega, by omega, fun h => ⟨by omega, hq2 h⟩, HB2.out⟩

set_option maxHeartbeats 1000000 in
theorem szDiskS_any (w : World) (A : Option Addr) (cap : Nat) (xs : List DA) (ds : List Dk) (left : Int) (h : RRd w A cap xs ds) (h0 : 0 ≤ left) (h1 : left ≤ 1048576) :
    Calls Try.prog 31 #[.slice A xs.length cap, .int .i64 left] w (SzR w left (xs.length ≤ 1048576 ∧ ∀ x ∈ xs, x.nC ≤ 1048576 ∧ x.nW ≤ 1048576)) := by
  have HR := Lib.hid h
  have hc := h.hc
  have hm := h.mc
  clear h
  by_cases hs : left - (xs.length : Int) < 0
  · go_enter Try.func31, Try.ntmps31
    go_wp2
    go_ret
    exact ⟨-1, rfl, by omega, by omega, by omega, Below.refl _ _⟩
  · go_enter Try.func31, Try.ntmps31
    go_wp2_with fail
    go_loopw [1, 5] (fun l i wr => ∃ (k : Nat) (r : Int), k ≤ xs.length ∧ i = .int .i64 k ∧ l = .int .i64 r ∧ 0 ≤ r ∧ r ≤ left ∧ Hid (∀ x ∈ xs.take k, x.nC ≤ 1048576 ∧ x.nW ≤ 1048576) ∧ Hid (Below w.heap.size w wr)) (fun _ i _ => xs.length - (intOf i).toNat)
    case atStart => exact ⟨0, _, Nat.zero_le _, rfl, rfl, by omega, by omega, Lib.hid (fun x hx => by simp at hx), Lib.hid (Below.refl _ _)⟩
    case round =>
      obtain ⟨k, r, hk, rfl, rfl, hr0, hr1, HN, HB⟩ := hrel
      by_cases hlt : k < xs.length
      · obtain ⟨b, off, x, rfl, hb, he, c0, c1, c2⟩ := (HR.out.below HB.out).rows.disk hlt
        obtain ⟨d, hd, hrd⟩ := (HR.out.below HB.out).each k x he
        have HS := Lib.hid (szDisk_any wr x d r hrd (by omega) (by omega))
        have HN2 := Lib.hid (fun (hx : x.nC ≤ 1048576 ∧ x.nW ≤ 1048576) => (show ∀ x ∈ xs.take (k + 1), x.nC ≤ 1048576 ∧ x.nW ≤ 1048576 by
          rw [List.take_add_one, he]
          intro y hy
          rcases List.mem_append.1 hy with hy | hy
          · exact HN.out y hy
          · simp at hy; rw [hy]; exact hx))
        obtain ⟨xC, xnC, xcC, xW, xnW, xcW, xg⟩ := x
        unfold DA.v at HS
        dsimp only at *
        clear he hd hrd
        go_wp2_with fail
        refine Calls.mono HS.out ?_
        rintro e w1 ⟨q, rfl, hq0, hq1, hq2, hB1⟩
        have HB2 := Lib.hid (below_below HB.out hB1)
        clear hB1
        by_cases hq : q < 0
        · go_wp2_with fail
          go_ret
          exact ⟨-1, rfl, by omega, by omega, by omega, HB2.out⟩
        · have HN3 := Lib.hid (HN2.out (hq2 (by omega)))
          clear hq2 HN2
          go_wp2_with fail
          go_roundw
          case rel => exact ⟨k + 1, q, by omega, by go_num, rfl, by omega, by omega, HN3, HB2⟩
          case measure => simp [intOf]; omega
      · obtain rfl : k = xs.length := by omega
        have HN3 := Lib.hid (show ∀ x ∈ xs, x.nC ≤ 1048576 ∧ x.nW ≤ 1048576 from fun x hx => HN.out x (by rw [List.take_length]; exact hx))
        clear HN
        go_wp2_with fail
        go_ret
        exact ⟨r, rfl, by omega, by omega, fun _ => ⟨by omega, HN3.out⟩, HB.out⟩

theorem szRaid_any (w : World) (A : Option Addr) (cap : Nat) (xs : List DA) (ds : List Dk) (h : RRd w A cap xs ds) :
    Calls Try.prog 12 #[.agg #[.slice A xs.length cap], .int .i64 1048576] w (SzR w 1048576 (xs.length ≤ 1048576 ∧ ∀ x ∈ xs, x.nC ≤ 1048576 ∧ x.nW ≤ 1048576)) := by
  have HBw := Lib.hid (below_alloc (Below.refl w.heap.size w) (.cells #[.slice A xs.length cap] 38))
  have HS := Lib.hid (szDiskS_any _ A cap xs ds 1048576 (h.below HBw.out) (by omega) (by omega))
  clear h
  generalize hPP : (xs.length ≤ 1048576 ∧ ∀ x ∈ xs, x.nC ≤ 1048576 ∧ x.nW ≤ 1048576) = PP at *
  clear hPP
  generalize xs.length = n at *
  go_enter Try.func12, Try.ntmps12
  go_wp2_with fail
  refine Calls.mono HS.out ?_
  rintro e w1 ⟨q, rfl, hq0, hq1, hq2, hB1⟩
  have HB2 := Lib.hid (below_below HBw.out hB1)
  have HQ := Lib.hid hq2
  clear hB1 hq2
  by_cases hq : q < 0
  · go_wp2_with fail
    go_ret
    exact ⟨-1, rfl, by omega, by omega, by omega, HB2.out⟩
  · go_wp2_with fail
    go_ret
    exact ⟨q, rfl, by omega, by omega, HQ.out, HB2.out⟩

theorem toWait_any (w : World) (z : Int) (s : ByteArray) :
    Calls Try.prog 96 #[.agg #[.int .i64 z, .string s]] w fun e w' => e = .returned (.agg #[.int .i64 z, .string s]) ∧ Below w.heap.size w w' := by
  go_enter Try.func96, Try.ntmps96
  go_wp2
  exact bodyPost_ret (v := .agg #[.int .i64 z, .string s]) (by simp [results, Try.results96, go_sem]) rfl ⟨rfl, by (repeat (first | assumption | exact Below.refl _ _ | refine below_alloc ?_ _ | refine Below.drew ?_ | refine below_drewN ?_ _ | refine below_set ?_ (by first | exact Nat.le_refl _ | omega | (simp; done) | (simp; omega)) _ | refine below_kp ?_ (by assumption) (by simp) | refine below_below ?_ (by assumption)))⟩

theorem eqWait_true (w : World) (z : Int) (s : ByteArray) :
    Calls Try.prog 97 #[.agg #[.int .i64 z, .string s], .agg #[.int .i64 z, .string s]] w fun e w' => e = .returned (.bool true) ∧ Below w.heap.size w w' := by
  go_enter Try.func97, Try.ntmps97
  go_wp2
  go_ret
  exact ⟨rfl, by (repeat (first | assumption | exact Below.refl _ _ | refine below_alloc ?_ _ | refine Below.drew ?_ | refine below_drewN ?_ _ | refine below_set ?_ (by first | exact Nat.le_refl _ | omega | (simp; done) | (simp; omega)) _ | refine below_kp ?_ (by assumption) (by simp) | refine below_below ?_ (by assumption)))⟩

set_option maxHeartbeats 1000000 in
theorem eqWaitS_true (w : World) (A B : Option Addr) (cap dap : Nat) (es : List Wt) (h : RdT encW 2 w A es) (g : RdT encW 2 w B es) (hc : es.length ≤ cap) (hd : es.length ≤ dap) (hm : cap ≤ 9223372036854775807) :
    Calls Try.prog 89 #[.slice A es.length cap, .slice B es.length dap] w fun e w' => e = .returned (.bool true) ∧ Below w.heap.size w w' := by
  have HR := Lib.hid h
  have HG := Lib.hid g
  clear h g
  go_enter Try.func89, Try.ntmps89
  go_wp2_with fail
  go_loopw [5] (fun i wr => ∃ k : Nat, k ≤ es.length ∧ i = .int .i64 k ∧ Below w.heap.size w wr) (fun i _ => es.length - (intOf i).toNat)
  case atStart => exact ⟨0, Nat.zero_le _, rfl, Below.refl _ _⟩
  case round =>
    obtain ⟨k, hk, rfl, hB⟩ := hrel
    have HB := Lib.hid hB
    clear hB
    by_cases hlt : k < es.length
    · obtain ⟨b, off, z, s, rfl, hb, he, c0, c1⟩ := (HR.out.below HB.out).wait hlt
      obtain ⟨b', off', z', s', rfl, hb', he', c0', c1'⟩ := (HG.out.below HB.out).wait hlt
      obtain ⟨rfl, rfl⟩ : z = z' ∧ s = s' := by rw [he] at he'; cases he'; exact ⟨rfl, rfl⟩
      clear he he'
      go_wp2_with fail
      refine wp_quiet_b (by kernel_rfl) (by kernel_rfl) (fun hgrow => ?_)
      repeat (go_big_quiet_step ((go_at_call 97; exact quiet_b (eqWait_true _ _ _))))
      refine wpQuiet_nil ?_
      intro w2 hww2
      replace hww2 := below_of_regrown hww2
      clear hgrow
      go_wp2_with fail
      go_roundw
      case rel => exact ⟨k + 1, by omega, by go_num, by have := HB.out; (repeat (first | assumption | exact Below.refl _ _ | refine below_alloc ?_ _ | refine Below.drew ?_ | refine below_drewN ?_ _ | refine below_set ?_ (by first | exact Nat.le_refl _ | omega | (simp; done) | (simp; omega)) _ | refine below_kp ?_ (by assumption) (by simp) | refine below_below ?_ (by assumption)))⟩
      case measure => simp [intOf]; omega
    · obtain rfl : k = es.length := by omega
      go_wp2_with fail
      go_ret
      exact ⟨rfl, HB.out⟩

theorem info_wait : (Try.prog.info? 75).map (fun i => (i.zero, i.size, i.bytes)) = some (some (.agg #[.int .i64 0, .string ⟨#[]⟩]), 2, 24) := by kernel_rfl

theorem madeW (n : Nat) : (madeCells (Value.agg #[.int .i64 0, .string ⟨#[]⟩]).cells (n * 2)).toList = cellsOf encW 2 (List.replicate n ⟨0, ⟨#[]⟩⟩) := by
  apply List.ext_getElem?
  intro i
  by_cases hi : i < n * 2
  · have h1 : (List.replicate n (⟨0, ⟨#[]⟩⟩ : Wt))[i / 2]? = some ⟨0, ⟨#[]⟩⟩ := by rw [List.getElem?_replicate, if_pos (by omega)]
    have h2 := cellsOf_get (enc := encW) (sz := 2) _ (i / 2) (i % 2) _ h1 (by omega)
    rw [show i / 2 * 2 + i % 2 = i by omega] at h2
    rw [h2]
    rcases (show i % 2 = 0 ∨ i % 2 = 1 by omega) with e | e
    · simp [madeCells, Value.cells, hi, e, encW]
    · simp [madeCells, Value.cells, hi, e, encW]
  · rw [List.getElem?_eq_none (by simp [madeCells]; omega), List.getElem?_eq_none (by rw [cellsOf_length, List.length_replicate]; omega)]

def ToW (w : World) (es : List Wt) (e : Ending) (w' : World) : Prop := ∃ v, e = .returned v ∧ Own encW 2 75 w.heap.size w' v es ∧ Below w.heap.size w w'

set_option maxHeartbeats 2000000 in
theorem toWaitS_any (w : World) (A : Option Addr) (cap : Nat) (es : List Wt) (h : RdT encW 2 w A es) (hc : es.length ≤ cap) (hm : es.length ≤ 1048576) :
    Calls Try.prog 87 #[.slice A es.length cap] w (ToW w es) := by
  have HR := Lib.hid h
  clear h
  obtain ⟨i0, hi, hz0, hz1, hz2⟩ := info_parts info_wait
  go_enter Try.func87, Try.ntmps87
  go_wp2_with (at_make; refine wpList_make_full _ rfl _ _ 49 rfl w.heap.size 75 i0 _ 2 Try.underlying49 hi hz0 hz1 .i64 .i64 _ _ es.length rfl rfl rfl rfl (by rw [hz2]; omega) (by unfold maxLen; omega) (Nat.le_refl _) ?_; intro w1 hown hgrow)
  have hB1 : Below w.heap.size w w1 := (Below.refl _ _).grown hgrow (Nat.le_refl _) (fun k hk => by cases hk)
  rw [madeW] at hown
  go_loopw [4] (fun i wr => ∃ k : Nat, k ≤ es.length ∧ i = .int .i64 k ∧ Hid (wr.ownsRow w.heap.size 75 2 (.slice (some ⟨w.heap.size, 0, none⟩) es.length es.length) es.length (cellsOf encW 2 (es.take k ++ List.replicate (es.length - k) ⟨0, ⟨#[]⟩⟩))) ∧ Hid (Below w.heap.size w wr)) (fun i _ => es.length - (intOf i).toNat)
  case atStart => exact ⟨0, Nat.zero_le _, rfl, Lib.hid (by simpa using hown), Lib.hid hB1⟩
  case round =>
    clear hown hgrow hB1
    obtain ⟨k, hk, rfl, HO, HB⟩ := hrel
    by_cases hlt : k < es.length
    · obtain ⟨b, off, z, s, rfl, hb, he, c0, c1⟩ := (HR.out.below HB.out).wait hlt
      have HE := Lib.hid he
      clear he
      go_wp2_with fail
      refine Calls.mono (toWait_any _ _ _) ?_
      rintro e w2 ⟨rfl, hB2⟩
      have hO2 : w2.ownsRow w.heap.size 75 2 (.slice (some ⟨w.heap.size, 0, none⟩) es.length es.length) es.length (cellsOf encW 2 (es.take k ++ List.replicate (es.length - k) ⟨0, ⟨#[]⟩⟩)) := ownsRow_below' HO.out hB2
      have hl : (cellsOf encW 2 (es.take k ++ List.replicate (es.length - k) ⟨0, ⟨#[]⟩⟩)).length = es.length * 2 := hO2.1
      obtain ⟨v0, hv0⟩ : ∃ v0, w2.cell? ⟨w.heap.size, k * 2, none⟩ = some v0 := ⟨_, (hO2.cellAt (k * 2) (by omega)).trans (List.getElem?_eq_getElem (by omega))⟩
      obtain ⟨v1, hv1⟩ : ∃ v1, w2.cell? ⟨w.heap.size, k * 2 + 1, none⟩ = some v1 := ⟨_, (hO2.cellAt (k * 2 + 1) (by omega)).trans (List.getElem?_eq_getElem (by omega))⟩
      have hf0 := hO2.frozenAt (k * 2)
      have hf1 := hO2.frozenAt (k * 2 + 1)
      have HO2 := Lib.hid hO2
      have HB2 := Lib.hid hB2
      clear hO2 hl hB2
      go_wp2_with fail
      go_roundw
      case rel =>
        refine ⟨k + 1, by omega, by go_num, Lib.hid ?_, Lib.hid ?_⟩
        · have h1 := ((HO2.out.stored (k * 2) (.int .i64 z)).1.stored (k * 2 + 1) (.string s)).1
          have e := cellsOf_set2 (enc := encW) (es.take k ++ List.replicate (es.length - k) ⟨0, ⟨#[]⟩⟩) k ⟨z, s⟩ (by simp; omega)
          rw [fill_set es k ⟨z, s⟩ _ HE.out] at e
          rw [← e]
          exact h1
        · have := HB.out
          have := HB2.out
          show Below _ _ _
          (repeat (first | assumption | exact Below.refl _ _ | refine below_alloc ?_ _ | refine Below.drew ?_ | refine below_drewN ?_ _ | refine below_set ?_ (by first | exact Nat.le_refl _ | omega | (simp; done) | (simp; omega)) _ | refine below_kp ?_ (by assumption) (by simp) | refine below_below ?_ (by assumption)))
      case measure => simp [intOf]; omega
    · obtain rfl : k = es.length := by omega
      go_wp2_with fail
      go_ret
      refine ⟨_, rfl, ?_, HB.out⟩
      have := HO.out
      simpa [Own] using this

/-- A disk's copy: its rows lie in new memory. -/
def ToD (w : World) (d : Dk) (e : Ending) (w' : World) : Prop := ∃ x : DA, e = .returned x.v ∧ DRd w' x d ∧ From w.heap.size x.C ∧ From w.heap.size x.W ∧ Below w.heap.size w w'

theorem DRd.kp {ex : List Nat} {w w' : World} {x : DA} {d : Dk} (h : DRd w x d) (hK : Kp ex w w') (hC : ∀ a, x.C = some a → a.block ∉ ex) (hW : ∀ a, x.W = some a → a.block ∉ ex) : DRd w' x d :=
  { h with cells := h.cells.kp hK (fun _ => hC), waits := h.waits.kp hK (fun _ => hW) }

set_option maxHeartbeats 2000000 in
theorem toDisk_any (w : World) (x : DA) (d : Dk) (h : DRd w x d) (bC : x.nC ≤ 1048576) (bW : x.nW ≤ 1048576) : Calls Try.prog 60 #[x.v] w (ToD w d) := by
  obtain ⟨C, nC, cC, W, nW, cW, g⟩ := x
  have HD := Lib.hid h
  have E1 := Lib.hid (fun W' (hB : Below w.heap.size w W') => (by have := toStringS_any W' C cC d.cells (h.cells.below hB) (by rw [h.lC]; exact h.hC) (by rw [h.lC]; exact bC); rw [h.lC] at this; exact this))
  have E2 := Lib.hid (fun W' (hB : Below w.heap.size w W') => (by have := toWaitS_any W' W cW d.waits (h.waits.below hB) (by rw [h.lW]; exact h.hW) (by rw [h.lW]; exact bW); rw [h.lW] at this; exact this))
  clear h
  unfold DA.v
  dsimp only at *
  have HBw := Lib.hid (below_alloc (below_alloc (below_alloc (Below.refl w.heap.size w) (.cells #[.slice C nC cC, .slice W nW cW, .bool g] 86)) (.cells #[.slice none 0 0, .slice none 0 0, .bool false] 51)) (.cells #[.slice none 0 0, .slice none 0 0, .bool false] 51))
  go_enter Try.func60, Try.ntmps60
  go_wp2_with fail
  refine Calls.mono (E1.out _ HBw.out) ?_
  rintro e w1 ⟨v1, rfl, hO1, hB1⟩
  obtain ⟨A1, cap1, rfl, hc1, hm1, hge1, hR1⟩ := hO1.form
  have HB1 := Lib.hid (below_below HBw.out hB1)
  have HR1 := Lib.hid hR1
  have HG1 := Lib.hid hge1
  have HL1 := Lib.hid hc1
  obtain ⟨c1, f1⟩ := bcell hB1
  have hz1 : w.heap.size + 1 + 1 < w1.heap.size := by have := hB1.size; simp at this; omega
  have hy1 : w.heap.size + 1 < w1.heap.size := by omega
  have hx1 : w.heap.size < w1.heap.size := by omega
  clear hB1 hO1 hR1 hge1 hc1
  generalize hn1 : d.cells.length = n1 at *
  have HN1 := Lib.hid hn1
  clear hn1
  go_wp2_with fail
  have HBs := Lib.hid (below_set HB1.out (p := ⟨w.heap.size + 1 + 1, 0, none⟩) (by dsimp only; omega) (.slice A1 n1 cap1))
  have hS1 : (w1.setCell ⟨w.heap.size + 1 + 1, 0, none⟩ (.slice A1 n1 cap1)).heap.size = w1.heap.size := World.size_setCell _ _ _
  refine Calls.mono (E2.out _ HBs.out) ?_
  rintro e w2 ⟨v2, rfl, hO2, hB2⟩
  obtain ⟨A2, cap2, rfl, hc2, hm2, hge2, hR2⟩ := hO2.form
  have HB2 := Lib.hid (below_below HBs.out hB2)
  have hz2 : w.heap.size + 1 + 1 < w2.heap.size := by have := hB2.size; rw [hS1] at this; omega
  have hy2 : w.heap.size + 1 < w2.heap.size := by omega
  have hx2 : w.heap.size < w2.heap.size := by omega
  have HR2 := Lib.hid hR2
  have HG2 := Lib.hid hge2
  have HL2 := Lib.hid hc2
  have HK := Lib.hid (Kp.of_below hB2)
  obtain ⟨c2, f2⟩ := bcell hB2
  rw [hS1] at c2 f2
  clear hB2 hO2 hR2 hge2 hc2
  generalize hn2 : d.waits.length = n2 at *
  have HN2 := Lib.hid hn2
  clear hn2
  have k1 : Kp [w.heap.size + 1, w.heap.size + 1 + 1] w1 (w1.setCell ⟨w.heap.size + 1 + 1, 0, none⟩ (.slice A1 n1 cap1)) := (Kp.refl _ _).setCell (.inl (by simp)) _
  have HK2 := Lib.hid (k1.trans (HK.out.all _))
  clear k1
  go_wp2_with fail
  have HKf := Lib.hid (((((Kp.refl [w.heap.size + 1, w.heap.size + 1 + 1] w2).setCell (p := ⟨w.heap.size + 1 + 1, 1, none⟩) (.inl (by simp)) (.slice A2 n2 cap2)).setCell (p := ⟨w.heap.size + 1 + 1, 2, none⟩) (.inl (by simp)) (.bool g)).setCell (p := ⟨w.heap.size + 1, 0, none⟩) (.inl (by simp)) (.slice A1 n1 cap1)).setCell (p := ⟨w.heap.size + 1, 1, none⟩) (.inl (by simp)) (.slice A2 n2 cap2) |>.setCell (p := ⟨w.heap.size + 1, 2, none⟩) (.inl (by simp)) (.bool g))
  have HBf := Lib.hid (below_set (below_set (below_set (below_set (below_set HB2.out (p := ⟨w.heap.size + 1 + 1, 1, none⟩) (by dsimp only; omega) (.slice A2 n2 cap2)) (p := ⟨w.heap.size + 1 + 1, 2, none⟩) (by dsimp only; omega) (.bool g)) (p := ⟨w.heap.size + 1, 0, none⟩) (by dsimp only; omega) (.slice A1 n1 cap1)) (p := ⟨w.heap.size + 1, 1, none⟩) (by dsimp only; omega) (.slice A2 n2 cap2)) (p := ⟨w.heap.size + 1, 2, none⟩) (by dsimp only; omega) (.bool g))
  have HRf := Lib.hid (HR1.out.kp (HK2.out.trans HKf.out) (fun _ a ha => by have := (HG1.out a ha).1; simp at this; simp; omega))
  have HRg := Lib.hid (HR2.out.kp HKf.out (fun _ a ha => by have := (HG2.out a ha).1; rw [hS1] at this; simp; omega))
  have HF1 := Lib.hid (show From w.heap.size A1 from fun a ha => by have := (HG1.out a ha).1; simp at this; omega)
  have HF2 := Lib.hid (show From w.heap.size A2 from fun a ha => by have := (HG2.out a ha).1; rw [hS1] at this; omega)
  clear HK HK2 HKf HR1 HR2 HG1 HG2 E1 E2
  refine bodyPost_ret (v := .agg #[.slice A1 n1 cap1, .slice A2 n2 cap2, .bool g]) (by simp [results, Try.results60, go_sem, c2, c1, hy1, hx1]) rfl ?_
  exact ⟨⟨A1, n1, cap1, A2, n2, cap2, g⟩, rfl, ⟨HRf.out, HRg.out, HN1.out, HN2.out, HL1.out, HL2.out, hm1, hm2, HD.out.gn, HD.out.zC, HD.out.zW⟩, HF1.out, HF2.out, HBf.out⟩

set_option maxHeartbeats 1000000 in
theorem eqDisk_true (w : World) (x y : DA) (d : Dk) (h : DRd w x d) (g : DRd w y d) : Calls Try.prog 61 #[x.v, y.v] w fun e w' => e = .returned (.bool true) ∧ Below w.heap.size w w' := by
  obtain ⟨C, nC, cC, W, nW, cW, g1⟩ := x
  obtain ⟨C', nC', cC', W', nW', cW', g2⟩ := y
  obtain rfl : nC = nC' := h.lC.symm.trans g.lC
  obtain rfl : nW = nW' := h.lW.symm.trans g.lW
  obtain rfl : g1 = g2 := h.gn.symm.trans g.gn
  have E1 := Lib.hid (fun V (hB : Below w.heap.size w V) => (by have := eqStringS_true V C C' cC cC' d.cells (h.cells.below hB) (g.cells.below hB) (by rw [h.lC]; exact h.hC) (by rw [g.lC]; exact g.hC) h.mC; rw [h.lC] at this; exact this))
  have E2 := Lib.hid (fun V (hB : Below w.heap.size w V) => (by have := eqWaitS_true V W W' cW cW' d.waits (h.waits.below hB) (g.waits.below hB) (by rw [h.lW]; exact h.hW) (by rw [g.lW]; exact g.hW) h.mW; rw [h.lW] at this; exact this))
  clear h g
  unfold DA.v
  dsimp only at *
  have HBw := Lib.hid (below_alloc (below_alloc (Below.refl w.heap.size w) (.cells #[.slice C nC cC, .slice W nW cW, .bool g1] 51)) (.cells #[.slice C' nC cC', .slice W' nW cW', .bool g1] 51))
  have BX := Lib.hid ((box_new w #[.slice C nC cC, .slice W nW cW, .bool g1] 51).alloc (.cells #[.slice C' nC cC', .slice W' nW cW', .bool g1] 51))
  have BY := box_new (w.alloc (.cells #[.slice C nC cC, .slice W nW cW, .bool g1] 51)) #[.slice C' nC cC', .slice W' nW cW', .bool g1] 51
  rw [World.size_alloc] at BY
  replace BY := Lib.hid BY
  have eg : (g1 != g1) = false := by simp
  go_enter Try.func61, Try.ntmps61
  go_wp2_with fail
  refine Calls.mono (E1.out _ HBw.out) ?_
  rintro e w1 ⟨rfl, hB⟩
  have HB1 := Lib.hid (below_below HBw.out hB)
  have BX1 := Lib.hid (BX.out.below hB)
  have BY1 := Lib.hid (BY.out.below hB)
  have bx := BX1.out.cell
  have bl := BX1.out.lt
  have by1 := BY1.out.cell
  have byl := BY1.out.lt
  clear hB BX BY
  go_wp2_with fail
  refine Calls.mono (E2.out _ HB1.out) ?_
  rintro e w2 ⟨rfl, hB⟩
  have HB2 := Lib.hid (below_below HB1.out hB)
  have bx2 := (BX1.out.below hB).cell
  have bl2 := (BX1.out.below hB).lt
  have by2 := (BY1.out.below hB).cell
  have byl2 := (BY1.out.below hB).lt
  clear hB bx by1 BX1 BY1
  go_wp2_with fail
  go_ret
  exact ⟨rfl, HB2.out⟩

set_option maxHeartbeats 1000000 in
theorem eqDiskS_true (w : World) (A B : Option Addr) (cap dap : Nat) (xs ys : List DA) (ds : List Dk) (h : RRd w A cap xs ds) (g : RRd w B dap ys ds) :
    Calls Try.prog 37 #[.slice A xs.length cap, .slice B ys.length dap] w fun e w' => e = .returned (.bool true) ∧ Below w.heap.size w w' := by
  have HR := Lib.hid h
  have HG := Lib.hid g
  have hl : xs.length = ys.length := h.len.symm.trans g.len
  have hc := h.hc
  have hd := g.hc
  have hm := h.mc
  have hm2 := g.mc
  clear h g
  rw [← hl] at hd ⊢
  have HLL := Lib.hid hl
  clear hl
  go_enter Try.func37, Try.ntmps37
  go_wp2_with fail
  go_loopw [5] (fun i wr => ∃ k : Nat, k ≤ xs.length ∧ i = .int .i64 k ∧ Hid (Below w.heap.size w wr)) (fun i _ => xs.length - (intOf i).toNat)
  case atStart => exact ⟨0, Nat.zero_le _, rfl, Lib.hid (Below.refl _ _)⟩
  case round =>
    obtain ⟨k, hk, rfl, HB⟩ := hrel
    by_cases hlt : k < xs.length
    · obtain ⟨b, off, x, rfl, hb, he, c0, c1, c2⟩ := (HR.out.below HB.out).rows.disk hlt
      obtain ⟨d, hd1, hrd⟩ := (HR.out.below HB.out).each k x he
      obtain ⟨b', off', y, rfl, hb', he', c0', c1', c2'⟩ := (HG.out.below HB.out).rows.disk (k := k) (by rw [← HLL.out]; exact hlt)
      obtain ⟨d', hd1', hrd'⟩ := (HG.out.below HB.out).each k y he'
      obtain rfl : d = d' := by rw [hd1] at hd1'; cases hd1'; rfl
      have HC := Lib.hid (fun W (hB : Below wr.heap.size wr W) => eqDisk_true W x y d (hrd.below hB) (hrd'.below hB))
      obtain ⟨xC, xnC, xcC, xW, xnW, xcW, xg⟩ := x
      obtain ⟨yC, ynC, ycC, yW, ynW, ycW, yg⟩ := y
      unfold DA.v at HC
      dsimp only at *
      clear hrd hrd' he he' hd1 hd1'
      go_wp2_with fail
      refine wp_quiet_b (by kernel_rfl) (by kernel_rfl) (fun hgrow => ?_)
      repeat (go_big_quiet_step ((go_at_call 61; exact quiet_b (HC.out _ (below_regrown _ _ _)))))
      refine wpQuiet_nil ?_
      intro w2 hww2
      replace hww2 := below_of_regrown hww2
      clear hgrow
      go_wp2_with fail
      go_roundw
      case rel => exact ⟨k + 1, by omega, by go_num, Lib.hid (below_below HB.out hww2)⟩
      case measure => simp [intOf]; omega
    · obtain rfl : k = xs.length := by omega
      go_wp2_with fail
      go_ret
      exact ⟨rfl, HB.out⟩

theorem eqRaid_true (w : World) (A B : Option Addr) (cap dap : Nat) (xs ys : List DA) (ds : List Dk) (h : RRd w A cap xs ds) (g : RRd w B dap ys ds) :
    Calls Try.prog 16 #[.agg #[.slice A xs.length cap], .agg #[.slice B ys.length dap]] w fun e w' => e = .returned (.bool true) ∧ Below w.heap.size w w' := by
  have HBw := Lib.hid (below_alloc (below_alloc (Below.refl w.heap.size w) (.cells #[.slice A xs.length cap] 25)) (.cells #[.slice B ys.length dap] 25))
  have HE := Lib.hid (eqDiskS_true _ A B cap dap xs ys ds (h.below HBw.out) (g.below HBw.out))
  clear h g
  generalize xs.length = n at *
  generalize ys.length = m at *
  go_enter Try.func16, Try.ntmps16
  go_wp2_with fail
  refine Calls.mono HE.out ?_
  rintro e w1 ⟨rfl, hB⟩
  have HB1 := Lib.hid (below_below HBw.out hB)
  clear hB
  go_wp2_with fail
  go_ret
  exact ⟨rfl, HB1.out⟩

end Go.Proofs.Ytamljoffmkcbnaa
