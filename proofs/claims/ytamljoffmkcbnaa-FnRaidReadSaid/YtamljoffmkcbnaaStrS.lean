/- Lists of texts: what the laws' own helpers over []string return; the argument opened. -/
import Derived.Test.YtamljoffmkcbnaaAppend
import Derived.Test.YtamljoffmkcbnaaQuiet
import Derived.Test.YtamljoffmkcbnaaLawCode
import Derived.Laws.ResultCell
import Derived.SliceStrings
namespace Go.Proofs.Ytamljoffmkcbnaa
open Go.RowKit
set_option maxRecDepth 100000
set_option linter.unusedVariables false
set_option linter.unusedSimpArgs false

theorem oneS : OneC encS := fun x j => rfl
theorem info_string : (Try.prog.info? 9).map (fun i => (i.zero, i.size, i.bytes)) = some (some (.string ⟨#[]⟩), 1, 16) := by kernel_rfl
theorem elS : El 48 9 1 16 := El.mk' Try.underlying48 info_string rfl (by omega)

theorem RdT.str {w : World} {A : Option Addr} {xs : List ByteArray} {k : Nat} (h : RdT encS 1 w A xs) (hk : k < xs.length) :
    ∃ b off s, A = some ⟨b, off, none⟩ ∧ b < w.heap.size ∧ xs[k]? = some s ∧ w.cell? ⟨b, off + k, none⟩ = some (.string s) := by
  obtain ⟨b, off, rfl, hb, hc⟩ := h (by omega)
  have he : xs[k]? = some xs[k] := List.getElem?_eq_getElem hk
  refine ⟨b, off, xs[k], rfl, hb, he, ?_⟩
  have := hc k _ he 0 (by omega)
  simpa [encS] using this

def SPost (w : World) (xs : List ByteArray) (e : Ending) (w' : World) : Prop := ∃ v, e = .returned v ∧ Own encS 1 9 w.heap.size w' v xs ∧ Below w.heap.size w w'

theorem ownsRow_below' {w w' : World} {base : Nat} {e : TypeId} {size : Nat} {v : Value} {n : Nat} {xs : List Value} (h : w.ownsRow base e size v n xs) (hb : Below w.heap.size w w') : w'.ownsRow base e size v n xs := by
  refine ⟨h.1, ?_⟩
  rcases h.2 with h | ⟨g, cap, cur, rfl, hg, hh, r⟩
  · exact .inl h
  · have hlt : g < w.heap.size := by
      rcases Nat.lt_or_ge g w.heap.size with h' | h'
      · exact h'
      · rw [Array.getElem?_eq_none h'] at hh; cases hh
    exact .inr ⟨g, cap, cur, rfl, hg, (hb.block g hlt).trans hh, r⟩

theorem madeS (n : Nat) : (madeCells (Value.string ⟨#[]⟩).cells (n * 1)).toList = cellsOf encS 1 (List.replicate n ⟨#[]⟩) := by
  apply List.ext_getElem?
  intro i
  by_cases hi : i < n
  · have h1 : (List.replicate n (⟨#[]⟩ : ByteArray))[i]? = some ⟨#[]⟩ := by rw [List.getElem?_replicate, if_pos (by omega)]
    have h2 := cellsOf_get (enc := encS) (sz := 1) _ i 0 _ h1 (by omega)
    rw [show i * 1 + 0 = i by omega] at h2
    rw [h2]
    simp [madeCells, Value.cells, hi, encS, Nat.mod_one]
  · rw [List.getElem?_eq_none (by simp [madeCells]; omega), List.getElem?_eq_none (by rw [cellsOf_length, List.length_replicate]; omega)]

set_option maxHeartbeats 2000000 in
theorem toStringS_any (w : World) (A : Option Addr) (cap : Nat) (xs : List ByteArray) (h : RdT encS 1 w A xs) (hc : xs.length ≤ cap) (hm : xs.length ≤ 1048576) :
    Calls Try.prog 86 #[.slice A xs.length cap] w (SPost w xs) := by
  have HR := Lib.hid h
  clear h
  obtain ⟨i0, hi, hz0, hz1, hz2⟩ := info_parts info_string
  go_enter Try.func86, Try.ntmps86
  go_wp2_with (at_make; refine wpList_make_full _ rfl _ _ 48 rfl w.heap.size 9 i0 _ 1 Try.underlying48 hi hz0 hz1 .i64 .i64 _ _ xs.length rfl rfl rfl rfl (by rw [hz2]; omega) (by unfold maxLen; omega) (Nat.le_refl _) ?_; intro w1 hown hgrow)
  have hB1 : Below w.heap.size w w1 := (Below.refl _ _).grown hgrow (Nat.le_refl _) (fun k hk => by cases hk)
  rw [madeS] at hown
  go_loopw [4] (fun i wr => ∃ k : Nat, k ≤ xs.length ∧ i = .int .i64 k ∧ Hid (wr.ownsRow w.heap.size 9 1 (.slice (some ⟨w.heap.size, 0, none⟩) xs.length xs.length) xs.length (cellsOf encS 1 (xs.take k ++ List.replicate (xs.length - k) ⟨#[]⟩))) ∧ Hid (Below w.heap.size w wr)) (fun i _ => xs.length - (intOf i).toNat)
  case atStart => exact ⟨0, Nat.zero_le _, rfl, Lib.hid (by simpa using hown), hB1⟩
  case round =>
    clear hown hgrow hB1
    obtain ⟨k, hk, rfl, HO, HB⟩ := hrel
    by_cases hlt : k < xs.length
    · obtain ⟨b, off, s, rfl, hb, he, c0⟩ := (HR.out.below HB.out).str hlt
      have HE := Lib.hid he
      clear he
      have hO2 := HO.out
      have hl : (cellsOf encS 1 (xs.take k ++ List.replicate (xs.length - k) ⟨#[]⟩)).length = xs.length * 1 := hO2.1
      obtain ⟨v0, hv0⟩ : ∃ v0, wr.cell? ⟨w.heap.size, k, none⟩ = some v0 := ⟨_, (hO2.cellAt k (by omega)).trans (List.getElem?_eq_getElem (by omega))⟩
      have hf0 := hO2.frozenAt k
      clear hO2 hl
      go_wp2_with fail
      go_roundw
      case rel =>
        refine ⟨k + 1, by omega, by go_num, ?_, ?_⟩
        · have h1 := (HO.out.stored k (.string s)).1
          have e := cellsOf_set1 (enc := encS) (xs.take k ++ List.replicate (xs.length - k) ⟨#[]⟩) k s (by simp; omega)
          rw [fill_set xs k s _ HE.out] at e
          rw [← e]
          exact h1
        · have := HB.out
          show Below _ _ _
          (repeat (first | assumption | exact Below.refl _ _ | refine below_alloc ?_ _ | refine Below.drew ?_ | refine below_drewN ?_ _ | refine below_set ?_ (by first | exact Nat.le_refl _ | omega | (simp; done) | (simp; omega)) _ | refine below_kp ?_ (by assumption) (by simp) | refine below_below ?_ (by assumption)))
      case measure => simp [intOf]; omega
    · obtain rfl : k = xs.length := by omega
      go_wp2_with fail
      go_ret
      refine ⟨_, rfl, ?_, HB.out⟩
      have := HO.out
      simpa [Own] using this

set_option maxHeartbeats 1000000 in
theorem eqStringS_true (w : World) (A B : Option Addr) (cap dap : Nat) (xs : List ByteArray) (h : RdT encS 1 w A xs) (g : RdT encS 1 w B xs) (hc : xs.length ≤ cap) (hd : xs.length ≤ dap) (hm : cap ≤ 9223372036854775807) :
    Calls Try.prog 88 #[.slice A xs.length cap, .slice B xs.length dap] w fun e w' => e = .returned (.bool true) ∧ Below w.heap.size w w' := by
  have HR := Lib.hid h
  have HG := Lib.hid g
  clear h g
  go_enter Try.func88, Try.ntmps88
  go_wp2_with fail
  go_loopw [5] (fun i wr => ∃ k : Nat, k ≤ xs.length ∧ i = .int .i64 k ∧ Below w.heap.size w wr) (fun i _ => xs.length - (intOf i).toNat)
  case atStart => exact ⟨0, Nat.zero_le _, rfl, Below.refl _ _⟩
  case round =>
    obtain ⟨k, hk, rfl, hB⟩ := hrel
    have HB := Lib.hid hB
    clear hB
    by_cases hlt : k < xs.length
    · obtain ⟨b, off, s, rfl, hb, he, c0⟩ := (HR.out.below HB.out).str hlt
      obtain ⟨b', off', s', rfl, hb', he', c0'⟩ := (HG.out.below HB.out).str hlt
      obtain rfl : s = s' := by rw [he] at he'; cases he'; rfl
      clear he he'
      go_wp2_with fail
      refine wp_quiet_b (by kernel_rfl) (by kernel_rfl) (fun hgrow => ?_)
      repeat (go_big_quiet_step (fail))
      refine wpQuiet_nil ?_
      intro w2 hww2
      replace hww2 := below_of_regrown hww2
      clear hgrow
      go_wp2_with fail
      go_roundw
      case rel => exact ⟨k + 1, by omega, by go_num, by have := HB.out; (repeat (first | assumption | exact Below.refl _ _ | refine below_alloc ?_ _ | refine Below.drew ?_ | refine below_drewN ?_ _ | refine below_set ?_ (by first | exact Nat.le_refl _ | omega | (simp; done) | (simp; omega)) _ | refine below_kp ?_ (by assumption) (by simp) | refine below_below ?_ (by assumption)))⟩
      case measure => simp [intOf]; omega
    · obtain rfl : k = xs.length := by omega
      go_wp2_with fail
      go_ret
      exact ⟨rfl, HB.out⟩

def SzPostS (w : World) (left : Int) (n : Nat) (e : Ending) (w' : World) : Prop := ∃ r : Int, e = .returned (.int .i64 r) ∧ -1 ≤ r ∧ r ≤ left ∧ (0 ≤ r → (n : Int) ≤ left) ∧ Below w.heap.size w w'

set_option maxHeartbeats 1000000 in
theorem szStringS_any (w : World) (A : Option Addr) (cap : Nat) (xs : List ByteArray) (left : Int) (h : RdT encS 1 w A xs) (hc : xs.length ≤ cap) (hm : cap ≤ 9223372036854775807) (hz : ∀ x ∈ xs, x.size ≤ 9223372036854775807) (h0 : 0 ≤ left) (h1 : left ≤ 1048576) :
    Calls Try.prog 78 #[.slice A xs.length cap, .int .i64 left] w (SzPostS w left (xs.length + (xs.map (·.size)).sum)) := by
  have HR := Lib.hid h
  have HZ := Lib.hid hz
  clear h hz
  by_cases hs : left - (xs.length : Int) < 0
  · go_enter Try.func78, Try.ntmps78
    go_wp2
    go_ret
    exact ⟨-1, rfl, by omega, by omega, by omega, Below.refl _ _⟩
  · go_enter Try.func78, Try.ntmps78
    go_wp2_with fail
    go_loopw [1, 5] (fun l i wr => ∃ (k : Nat) (r : Int), k ≤ xs.length ∧ i = .int .i64 k ∧ l = .int .i64 r ∧ 0 ≤ r ∧ r ≤ left ∧ Hid (r = left - (xs.length : Int) - (((xs.take k).map (·.size)).sum : Nat)) ∧ Below w.heap.size w wr) (fun _ i _ => xs.length - (intOf i).toNat)
    case atStart => exact ⟨0, _, Nat.zero_le _, rfl, rfl, by omega, by omega, Lib.hid (by simp), Below.refl _ _⟩
    case round =>
      obtain ⟨k, r, hk, rfl, rfl, hr0, hr1, HS, hB⟩ := hrel
      have HB := Lib.hid hB
      clear hB
      by_cases hlt : k < xs.length
      · obtain ⟨b, off, s, rfl, hb, he, c0⟩ := (HR.out.below HB.out).str hlt
        have hnz := HZ.out _ (List.mem_of_getElem? he)
        have HT := Lib.hid (show (((xs.take (k + 1)).map (·.size)).sum : Nat) = ((xs.take k).map (·.size)).sum + s.size by
          rw [List.take_add_one, he]
          simp)
        have HL := Lib.hid (show ((xs.take (k + 1)).map (·.size)).sum ≤ (xs.map (·.size)).sum by
          conv => rhs; rw [← List.take_append_drop (k + 1) xs]
          rw [List.map_append, List.sum_append]
          omega)
        clear he
        by_cases hq : r - (s.size : Int) < 0
        · go_wp2_with fail
          go_ret
          exact ⟨-1, rfl, by omega, by omega, by omega, HB.out⟩
        · go_wp2_with fail
          go_roundw
          case rel => exact ⟨k + 1, r - s.size, by omega, by go_num, rfl, by omega, by omega, Lib.hid (by have := HS.out; rw [HT.out]; omega), HB.out⟩
          case measure => simp [intOf]; omega
      · obtain rfl : k = xs.length := by omega
        have HS2 := Lib.hid (show r = left - (xs.length : Int) - ((xs.map (·.size)).sum : Nat) by have := HS.out; rwa [List.take_length] at this)
        go_wp2_with fail
        go_ret
        exact ⟨r, rfl, by omega, by omega, by have := HS2.out; omega, HB.out⟩

open Go.ChangeShapes Go.WideShapes Go.ChangeAt in
/-- A list of texts that came in, opened. -/
theorem open_strs {H : Type} {enc : TypeId × Value → H} {W : World} {r : Reach} {b0 base : Nat} {v : Value} {d : DataW H} {p : List MemPlace} (hval : Value.okWide Try.prog W r b0 48 v) (h : DataW.Trod enc Try.prog W base (fun _ => true) true 48 v d p) :
    ∃ (A : Option Addr) (cap : Nat) (xs : List ByteArray), v = .slice A xs.length cap ∧ xs.length ≤ cap ∧ cap ≤ 9223372036854775807 ∧ RdT encS 1 W A xs ∧ ∀ x ∈ xs, x.size ≤ 9223372036854775807 := by
  have hlt : ∀ x ∈ p, x.block < W.heap.size := by obtain ⟨m, hm⟩ := h; exact DataW.trod_lt m _ _ _ hm
  obtain ⟨a0, len0, cap0, rfl⟩ := okWide_slice Try.underlying48 hval
  obtain ⟨fuel, hf⟩ := h
  rcases open_strings Try.underlying48 Try.underlying9 (by kernel_rfl) hf with ⟨hcs, _⟩ | ⟨x, l, c, zs, hcs, _, hl, hm, hz, hx, hcell, hwz⟩
  · simp [Value.cells] at hcs
    obtain ⟨rfl, rfl, rfl⟩ := hcs
    exact ⟨none, 0, [], rfl, Nat.le_refl _, by omega, RdT.none_, fun _ hm => by cases hm⟩
  · simp [Value.cells] at hcs
    obtain ⟨rfl, rfl, rfl⟩ := hcs
    have hz' : zs.length = cap0 := by simpa using hz
    have hlen : (zs.take len0).length = len0 := by rw [List.length_take]; omega
    refine ⟨some x, cap0, zs.take len0, by rw [hlen], by omega, by unfold maxLen at hm; omega, fun hn => ?_, fun z hzm => ?_⟩
    · have h0 : 0 < zs.length := by omega
      obtain ⟨b, off, spot⟩ := x
      have hs := spot_none (hcell 0 h0)
      have hspot : spot = none := by simpa [Addr.add] using hs
      subst hspot
      have hlt' : b < W.heap.size := by
        have := World.block_lt_of_cell? W _ (hcell 0 h0)
        simpa [Addr.add] using this
      refine ⟨b, off, rfl, hlt', fun i z hi j hj => ?_⟩
      obtain rfl : j = 0 := by omega
      have hi' : i < len0 := by
        rcases Nat.lt_or_ge i len0 with h | h
        · exact h
        · rw [List.getElem?_eq_none (by omega)] at hi; cases hi
      have := hcell i (by omega)
      rw [List.getElem?_take, if_pos hi'] at hi
      have e : zs.getD i ByteArray.empty = z := by simp [List.getD, hi]
      rw [e] at this
      have ea : (⟨b, off, none⟩ : Addr).add i = ⟨b, off + i * 1 + 0, none⟩ := by
        unfold Addr.add
        split
        · next h => subst h; simp
        · simp
      rw [ea] at this
      exact this
    · have := hwz z (List.mem_of_mem_take hzm)
      unfold maxLen at this
      omega

end Go.Proofs.Ytamljoffmkcbnaa
