/- The laws' own helpers over entries: what szEntryS, toEntryS, eqEntryS return; the argument opened. -/
import Derived.Test.YtjalboplilolkaaDoorEntOk
import Derived.Test.YtjalboplilolkaaDoorLawCode
import Derived.Deep.SlicePairs
import Derived.Laws.ResultCell
namespace Go.Proofs.YtjalboplilolkaaDoor
open Go.RowKit
set_option maxRecDepth 100000
set_option linter.unusedVariables false
set_option linter.unusedSimpArgs false

def SzPost (w : World) (left : Int) (n : Nat) (e : Ending) (w' : World) : Prop := ∃ r : Int, e = .returned (.int .i64 r) ∧ -1 ≤ r ∧ r ≤ left ∧ (0 ≤ r → (n : Int) ≤ left) ∧ Below w.heap.size w w'
def SzOne (w : World) (left : Int) (e : Ending) (w' : World) : Prop := ∃ r : Int, e = .returned (.int .i64 r) ∧ -1 ≤ r ∧ r ≤ left ∧ Below w.heap.size w w'

theorem szEntry_any (w : World) (nm : ByteArray) (id left : Int) (hn : nm.size ≤ 9223372036854775807) (h0 : 0 ≤ left) (h1 : left ≤ 1048576) :
    Calls Tryd.prog 61 #[.agg #[.string nm, .int .i64 id], .int .i64 left] w (SzOne w left) := by
  by_cases h : left - (nm.size : Int) < 0
  · go_enter Tryd.func61, Tryd.ntmps61
    go_wp2
    go_ret
    exact ⟨-1, rfl, by omega, by omega, by (repeat (first | assumption | exact Below.refl _ _ | refine below_alloc ?_ _ | refine Below.drew ?_ | refine below_drewN ?_ _ | refine below_set ?_ (by first | exact Nat.le_refl _ | omega | (simp; done) | (simp; omega)) _ | refine below_kp ?_ (by assumption) (by simp) | refine below_below ?_ (by assumption)))⟩
  · go_enter Tryd.func61, Tryd.ntmps61
    go_wp2
    go_ret
    exact ⟨left - nm.size, rfl, by omega, by omega, by (repeat (first | assumption | exact Below.refl _ _ | refine below_alloc ?_ _ | refine Below.drew ?_ | refine below_drewN ?_ _ | refine below_set ?_ (by first | exact Nat.le_refl _ | omega | (simp; done) | (simp; omega)) _ | refine below_kp ?_ (by assumption) (by simp) | refine below_below ?_ (by assumption)))⟩

set_option maxHeartbeats 1000000 in
theorem szEntryS_any (w : World) (A : Option Addr) (cap : Nat) (es : List Ent) (left : Int) (h : RdT encE 2 w A es) (hc : es.length ≤ cap) (hm : cap ≤ 9223372036854775807) (hz : ∀ e ∈ es, e.name.size ≤ 9223372036854775807) (h0 : 0 ≤ left) (h1 : left ≤ 1048576) :
    Calls Tryd.prog 26 #[.slice A es.length cap, .int .i64 left] w (SzPost w left es.length) := by
  have HR := Lib.hid h
  have HZ := Lib.hid hz
  clear h hz
  by_cases hs : left - (es.length : Int) < 0
  · go_enter Tryd.func26, Tryd.ntmps26
    go_wp2
    go_ret
    exact ⟨-1, rfl, by omega, by omega, by omega, Below.refl _ _⟩
  · go_enter Tryd.func26, Tryd.ntmps26
    go_wp2_with fail
    go_loopw [1, 5] (fun l i wr => ∃ (k : Nat) (r : Int), k ≤ es.length ∧ i = .int .i64 k ∧ l = .int .i64 r ∧ 0 ≤ r ∧ r ≤ left ∧ Below w.heap.size w wr) (fun _ i _ => es.length - (intOf i).toNat)
    case atStart => exact ⟨0, _, Nat.zero_le _, rfl, rfl, by omega, by omega, Below.refl _ _⟩
    case round =>
      obtain ⟨k, r, hk, rfl, rfl, hr0, hr1, hB⟩ := hrel
      have HB := Lib.hid hB
      clear hB
      by_cases hlt : k < es.length
      · obtain ⟨b, off, nm, id, rfl, hb, he, c0, c1⟩ := (HR.out.below HB.out).entry hlt
        have hnz := HZ.out _ (List.mem_of_getElem? he)
        have HNZ := Lib.hid hnz
        clear he hnz
        go_wp2_with fail
        refine Calls.mono (szEntry_any _ _ _ _ HNZ.out (by omega) (by omega)) ?_
        rintro e w1 ⟨q, rfl, hq0, hq1, hB1⟩
        by_cases hq : q < 0
        · go_wp2_with fail
          go_ret
          exact ⟨-1, rfl, by omega, by omega, by omega, by have := HB.out; (repeat (first | assumption | exact Below.refl _ _ | refine below_alloc ?_ _ | refine Below.drew ?_ | refine below_drewN ?_ _ | refine below_set ?_ (by first | exact Nat.le_refl _ | omega | (simp; done) | (simp; omega)) _ | refine below_kp ?_ (by assumption) (by simp) | refine below_below ?_ (by assumption)))⟩
        · go_wp2_with fail
          go_roundw
          case rel => exact ⟨k + 1, q, by omega, by go_num, rfl, by omega, by omega, by have := HB.out; (repeat (first | assumption | exact Below.refl _ _ | refine below_alloc ?_ _ | refine Below.drew ?_ | refine below_drewN ?_ _ | refine below_set ?_ (by first | exact Nat.le_refl _ | omega | (simp; done) | (simp; omega)) _ | refine below_kp ?_ (by assumption) (by simp) | refine below_below ?_ (by assumption)))⟩
          case measure => simp [intOf]; omega
      · obtain rfl : k = es.length := by omega
        go_wp2_with fail
        go_ret
        exact ⟨r, rfl, by omega, by omega, by omega, HB.out⟩

theorem toEntry_any (w : World) (nm : ByteArray) (id : Int) :
    Calls Tryd.prog 62 #[.agg #[.string nm, .int .i64 id]] w fun e w' => e = .returned (.agg #[.string nm, .int .i64 id]) ∧ Below w.heap.size w w' := by
  go_enter Tryd.func62, Tryd.ntmps62
  go_wp2
  exact bodyPost_ret (v := .agg #[.string nm, .int .i64 id]) (by simp [results, Tryd.results62, go_sem]) rfl ⟨rfl, by (repeat (first | assumption | exact Below.refl _ _ | refine below_alloc ?_ _ | refine Below.drew ?_ | refine below_drewN ?_ _ | refine below_set ?_ (by first | exact Nat.le_refl _ | omega | (simp; done) | (simp; omega)) _ | refine below_kp ?_ (by assumption) (by simp) | refine below_below ?_ (by assumption)))⟩

theorem eqEntry_true (w : World) (nm : ByteArray) (id : Int) :
    Calls Tryd.prog 59 #[.agg #[.string nm, .int .i64 id], .agg #[.string nm, .int .i64 id]] w fun e w' => e = .returned (.bool true) ∧ Below w.heap.size w w' := by
  go_enter Tryd.func59, Tryd.ntmps59
  go_wp2
  go_ret
  exact ⟨rfl, by (repeat (first | assumption | exact Below.refl _ _ | refine below_alloc ?_ _ | refine Below.drew ?_ | refine below_drewN ?_ _ | refine below_set ?_ (by first | exact Nat.le_refl _ | omega | (simp; done) | (simp; omega)) _ | refine below_kp ?_ (by assumption) (by simp) | refine below_below ?_ (by assumption)))⟩

set_option maxHeartbeats 1000000 in
theorem eqEntryS_true (w : World) (A B : Option Addr) (cap dap : Nat) (es : List Ent) (h : RdT encE 2 w A es) (g : RdT encE 2 w B es) (hc : es.length ≤ cap) (hd : es.length ≤ dap) (hm : cap ≤ 9223372036854775807) :
    Calls Tryd.prog 23 #[.slice A es.length cap, .slice B es.length dap] w fun e w' => e = .returned (.bool true) ∧ Below w.heap.size w w' := by
  have HR := Lib.hid h
  have HG := Lib.hid g
  clear h g
  go_enter Tryd.func23, Tryd.ntmps23
  go_wp2_with fail
  go_loopw [5] (fun i wr => ∃ k : Nat, k ≤ es.length ∧ i = .int .i64 k ∧ Below w.heap.size w wr) (fun i _ => es.length - (intOf i).toNat)
  case atStart => exact ⟨0, Nat.zero_le _, rfl, Below.refl _ _⟩
  case round =>
    obtain ⟨k, hk, rfl, hB⟩ := hrel
    have HB := Lib.hid hB
    clear hB
    by_cases hlt : k < es.length
    · obtain ⟨b, off, nm, id, rfl, hb, he, c0, c1⟩ := (HR.out.below HB.out).entry hlt
      obtain ⟨b', off', nm', id', rfl, hb', he', c0', c1'⟩ := (HG.out.below HB.out).entry hlt
      obtain ⟨rfl, rfl⟩ : nm = nm' ∧ id = id' := by rw [he] at he'; cases he'; exact ⟨rfl, rfl⟩
      clear he he'
      go_wp2_with fail
      refine wp_quiet_b (by kernel_rfl) (by kernel_rfl) (fun hgrow => ?_)
      repeat (go_big_quiet_step ((go_at_call 59; exact quiet_b (eqEntry_true _ _ _))))
      refine wpQuiet_nil ?_
      intro w2 hww2
      replace hww2 := below_of_regrown hww2
      clear hgrow
      go_wp2_with fail
      go_roundw
      case rel => exact ⟨k + 1, by omega, by go_num, by have := HB.out; (repeat (first | assumption | exact Below.refl _ _ | refine below_alloc ?_ _ | refine Below.drew ?_ | refine below_drewN ?_ _ | refine below_set ?_ (by first | exact Nat.le_refl _ | omega | (simp; done) | (simp; omega)) _ | refine below_kp ?_ (by assumption) (by simp) | refine below_below ?_ (by assumption)))⟩
      case measure => simp [intOf]; omega
    · obtain rfl : k = es.length := by omega
      go_wp2_with fail
      go_ret
      exact ⟨rfl, HB.out⟩

theorem info_entry : (Tryd.prog.info? 76).map (fun i => (i.zero, i.size, i.bytes)) = some (some (.agg #[.string ⟨#[]⟩, .int .i64 0]), 2, 24) := by kernel_rfl

theorem madeE (n : Nat) : (madeCells (Value.agg #[.string ⟨#[]⟩, .int .i64 0]).cells (n * 2)).toList = cellsOf encE 2 (List.replicate n ⟨⟨#[]⟩, 0⟩) := by
  apply List.ext_getElem?
  intro i
  by_cases hi : i < n * 2
  · have h1 : (List.replicate n (⟨⟨#[]⟩, 0⟩ : Ent))[i / 2]? = some ⟨⟨#[]⟩, 0⟩ := by rw [List.getElem?_replicate, if_pos (by omega)]
    have h2 := cellsOf_get (enc := encE) (sz := 2) _ (i / 2) (i % 2) _ h1 (by omega)
    rw [show i / 2 * 2 + i % 2 = i by omega] at h2
    rw [h2]
    rcases (show i % 2 = 0 ∨ i % 2 = 1 by omega) with e | e
    · simp [madeCells, Value.cells, hi, e, encE]
    · simp [madeCells, Value.cells, hi, e, encE]
  · rw [List.getElem?_eq_none (by simp [madeCells]; omega), List.getElem?_eq_none (by rw [cellsOf_length, List.length_replicate]; omega)]

theorem ownsRow_below {w w' : World} {base : Nat} {e : TypeId} {size : Nat} {v : Value} {n : Nat} {xs : List Value} (h : w.ownsRow base e size v n xs) (hb : Below w.heap.size w w') : w'.ownsRow base e size v n xs := by
  refine ⟨h.1, ?_⟩
  rcases h.2 with h | ⟨g, cap, cur, rfl, hg, hh, r⟩
  · exact .inl h
  · have hlt : g < w.heap.size := by
      rcases Nat.lt_or_ge g w.heap.size with h' | h'
      · exact h'
      · rw [Array.getElem?_eq_none h'] at hh; cases hh
    exact .inr ⟨g, cap, cur, rfl, hg, (hb.block g hlt).trans hh, r⟩

def ToPost (w : World) (es : List Ent) (e : Ending) (w' : World) : Prop := ∃ v, e = .returned v ∧ Own encE 2 76 w.heap.size w' v es ∧ Below w.heap.size w w'

set_option maxHeartbeats 2000000 in
theorem toEntryS_any (w : World) (A : Option Addr) (cap : Nat) (es : List Ent) (h : RdT encE 2 w A es) (hc : es.length ≤ cap) (hm : es.length ≤ 1048576) :
    Calls Tryd.prog 27 #[.slice A es.length cap] w (ToPost w es) := by
  have HR := Lib.hid h
  clear h
  obtain ⟨i0, hi, hz0, hz1, hz2⟩ := info_parts info_entry
  go_enter Tryd.func27, Tryd.ntmps27
  go_wp2_with (at_make; refine wpList_make_full _ rfl _ _ 24 rfl w.heap.size 76 i0 _ 2 Tryd.underlying24 hi hz0 hz1 .i64 .i64 _ _ es.length rfl rfl rfl rfl (by rw [hz2]; omega) (by unfold maxLen; omega) (Nat.le_refl _) ?_; intro w1 hown hgrow)
  have hB1 : Below w.heap.size w w1 := (Below.refl _ _).grown hgrow (Nat.le_refl _) (fun k hk => by cases hk)
  rw [madeE] at hown
  go_loopw [4] (fun i wr => ∃ k : Nat, k ≤ es.length ∧ i = .int .i64 k ∧ Hid (wr.ownsRow w.heap.size 76 2 (.slice (some ⟨w.heap.size, 0, none⟩) es.length es.length) es.length (cellsOf encE 2 (es.take k ++ List.replicate (es.length - k) ⟨⟨#[]⟩, 0⟩))) ∧ Hid (Below w.heap.size w wr)) (fun i _ => es.length - (intOf i).toNat)
  case atStart => exact ⟨0, Nat.zero_le _, rfl, Lib.hid (by simpa using hown), hB1⟩
  case round =>
    clear hown hgrow hB1
    obtain ⟨k, hk, rfl, HO, HB⟩ := hrel
    by_cases hlt : k < es.length
    · obtain ⟨b, off, nm, id, rfl, hb, he, c0, c1⟩ := (HR.out.below HB.out).entry hlt
      have HE := Lib.hid he
      clear he
      go_wp2_with fail
      refine Calls.mono (toEntry_any _ _ _) ?_
      rintro e w2 ⟨rfl, hB2⟩
      have hO2 : w2.ownsRow w.heap.size 76 2 (.slice (some ⟨w.heap.size, 0, none⟩) es.length es.length) es.length (cellsOf encE 2 (es.take k ++ List.replicate (es.length - k) ⟨⟨#[]⟩, 0⟩)) := ownsRow_below HO.out hB2
      have hl : (cellsOf encE 2 (es.take k ++ List.replicate (es.length - k) ⟨⟨#[]⟩, 0⟩)).length = es.length * 2 := hO2.1
      obtain ⟨v0, hv0⟩ : ∃ v0, w2.cell? ⟨w.heap.size, k * 2, none⟩ = some v0 := ⟨_, (hO2.cellAt (k * 2) (by omega)).trans (List.getElem?_eq_getElem (by omega))⟩
      obtain ⟨v1, hv1⟩ : ∃ v1, w2.cell? ⟨w.heap.size, k * 2 + 1, none⟩ = some v1 := ⟨_, (hO2.cellAt (k * 2 + 1) (by omega)).trans (List.getElem?_eq_getElem (by omega))⟩
      have hf0 := hO2.frozenAt (k * 2)
      have hf1 := hO2.frozenAt (k * 2 + 1)
      have HO2 := Lib.hid hO2
      have HB2 := Lib.hid hB2
      clear hO2 hl hB2
      go_wp2_with fail
      go_roundw
      case rel =>
        refine ⟨k + 1, by omega, by go_num, ?_, ?_⟩
        · have h1 := ((HO2.out.stored (k * 2) (.string nm)).1.stored (k * 2 + 1) (.int .i64 id)).1
          have e := cellsOf_set2 (enc := encE) (es.take k ++ List.replicate (es.length - k) ⟨⟨#[]⟩, 0⟩) k ⟨nm, id⟩ (by simp; omega)
          rw [fill_set es k ⟨nm, id⟩ _ HE.out] at e
          rw [← e]
          exact h1
        · have := HB.out
          have := HB2.out
          show Below _ _ _
          (repeat (first | assumption | exact Below.refl _ _ | refine below_alloc ?_ _ | refine Below.drew ?_ | refine below_drewN ?_ _ | refine below_set ?_ (by first | exact Nat.le_refl _ | omega | (simp; done) | (simp; omega)) _ | refine below_kp ?_ (by assumption) (by simp) | refine below_below ?_ (by assumption)))
      case measure => simp [intOf]; omega
    · obtain rfl : k = es.length := by omega
      go_wp2_with fail
      go_ret
      refine ⟨_, rfl, ?_, HB.out⟩
      have := HO.out
      simpa [Own] using this

theorem add_plain' (b off i : Nat) : (⟨b, off, none⟩ : Addr).add i = ⟨b, off + i, none⟩ := by
  unfold Addr.add
  split
  · next h => subst h; simp
  · rfl

def strOf : Value → ByteArray | .string s => s | _ => ⟨#[]⟩

open Go.ChangeShapes Go.WideShapes Go.ChangeAt in
/-- A list of entries that came in, opened. -/
theorem open_entries {H : Type} {enc : TypeId × Value → H} {W : World} {r : Reach} {b0 base : Nat} {v : Value} {d : DataW H} {p : List MemPlace} (hval : Value.okWide Tryd.prog W r b0 35 v) (h : DataW.Trod enc Tryd.prog W base (fun _ => true) true 35 v d p) :
    ∃ (A : Option Addr) (cap : Nat) (es : List Ent), v = .slice A es.length cap ∧ es.length ≤ cap ∧ cap ≤ 9223372036854775807 ∧ RdT encE 2 W A es ∧ ∀ e ∈ es, e.name.size ≤ 9223372036854775807 := by
  obtain ⟨a0, len0, cap0, rfl⟩ := okWide_slice Tryd.underlying35 hval
  obtain ⟨fuel, hf⟩ := h
  rcases Deep.open_slice_pairs Tryd.underlying35 Tryd.underlying92 (by kernel_rfl) rfl rfl (by kernel_rfl) (by kernel_rfl) hf with ⟨hcs, _⟩ | ⟨a, len, cap, m, n, V0, V1, D0, D1, P0, P1, hcs, _, hl, hm, hmm, hx, hcell⟩
  · simp [Value.cells] at hcs
    obtain ⟨rfl, rfl, rfl⟩ := hcs
    exact ⟨none, 0, [], rfl, Nat.le_refl _, by omega, RdT.none_, fun _ hm => by cases hm⟩
  · simp [Value.cells] at hcs
    obtain ⟨rfl, rfl, rfl⟩ := hcs
    have hm' : m = cap0 := by simpa using hmm
    subst hm'
    have each : ∀ i, i < len0 → ∃ (s : ByteArray) (z : Int), V0 i = .string s ∧ V1 i = .int .i64 z ∧ s.size ≤ maxLen := fun i hi => by
      obtain ⟨_, _, t0, t1⟩ := hcell i (by omega)
      obtain ⟨s, e0, _, hs⟩ := DataW.trod_string Tryd.underlying9 t0
      obtain ⟨z, e1, _, _⟩ := DataW.trod_int Tryd.underlying3 t1
      exact ⟨s, z, by simpa using e0, by simpa using e1, hs⟩
    have hlen : ((List.range len0).map fun i => (⟨strOf (V0 i), intOf (V1 i)⟩ : Ent)).length = len0 := by simp
    refine ⟨some a, m, (List.range len0).map fun i => ⟨strOf (V0 i), intOf (V1 i)⟩, by rw [hlen], by omega, by unfold maxLen at hm; omega, fun hn => ?_, fun e he => ?_⟩
    · rw [hlen] at hn
      obtain ⟨b, off, spot⟩ := a
      have h00 := (hcell 0 (by omega)).1
      have hspot : spot = none := by simpa [Addr.add] using spot_none h00
      subst hspot
      have hlt' : b < W.heap.size := by
        have := World.block_lt_of_cell? W _ h00
        simpa [Addr.add] using this
      refine ⟨b, off, rfl, hlt', fun i x hx j hj => ?_⟩
      have hi : i < len0 := by
        rcases Nat.lt_or_ge i len0 with h | h
        · exact h
        · rw [List.getElem?_eq_none (by simp; omega)] at hx; cases hx
      rw [List.getElem?_map, List.getElem?_range hi] at hx
      simp only [Option.map_some, Option.some.injEq] at hx
      obtain ⟨s, z, e0, e1, _⟩ := each i hi
      obtain ⟨k0, k1, _, _⟩ := hcell i (by omega)
      rw [add_plain'] at k0 k1
      rw [e0] at k0 hx
      rw [e1] at k1 hx
      subst hx
      rcases (show j = 0 ∨ j = 1 by omega) with rfl | rfl
      · simpa [encE, strOf] using k0
      · simpa [encE, intOf, Nat.add_assoc] using k1
    · obtain ⟨i, hi, rfl⟩ := List.mem_map.1 he
      obtain ⟨s, z, e0, e1, hs⟩ := each i (List.mem_range.1 hi)
      simp only [e0, strOf]
      unfold maxLen at hs
      omega

end Go.Proofs.YtjalboplilolkaaDoor
