/- Lists of numbers: what the laws' own helpers over []int return; the argument opened. -/
import Derived.Test.YtomofiklodojeaaAppend
import Derived.Test.YtomofiklodojeaaQuiet
import Derived.Test.YtomofiklodojeaaLaw
import Derived.ChangeSlices
import Derived.Laws.ResultCell
namespace Go.Proofs.Ytomofiklodojeaa
open Go.RowKit
set_option maxRecDepth 100000
set_option linter.unusedVariables false
set_option linter.unusedSimpArgs false

theorem spot_noneN {w : World} {a : Addr} {v : Value} (h : w.cell? a = some v) : a.spot = none := by simpa using World.cell?_spot h

def encN (z : Int) (_ : Nat) : Value := .int .i64 z
theorem oneN : OneC encN := fun x j => rfl
theorem info_int : (Try.prog.info? 3).map (fun i => (i.zero, i.size, i.bytes)) = some (some (.int .i64 0), 1, 8) := by kernel_rfl
theorem elN : El 25 3 1 8 := El.mk' Try.underlying25 info_int rfl (by omega)

theorem RdT.num {w : World} {A : Option Addr} {xs : List Int} {k : Nat} (h : RdT encN 1 w A xs) (hk : k < xs.length) :
    ∃ b off s, A = some ⟨b, off, none⟩ ∧ b < w.heap.size ∧ xs[k]? = some s ∧ w.cell? ⟨b, off + k, none⟩ = some (.int .i64 s) := by
  obtain ⟨b, off, rfl, hb, hc⟩ := h (by omega)
  have he : xs[k]? = some xs[k] := List.getElem?_eq_getElem hk
  refine ⟨b, off, xs[k], rfl, hb, he, ?_⟩
  have := hc k _ he 0 (by omega)
  simpa [encN] using this

def NPost (w : World) (xs : List Int) (e : Ending) (w' : World) : Prop := ∃ v, e = .returned v ∧ Own encN 1 3 w.heap.size w' v xs ∧ Below w.heap.size w w'

theorem ownsRow_belowN {w w' : World} {base : Nat} {e : TypeId} {size : Nat} {v : Value} {n : Nat} {xs : List Value} (h : w.ownsRow base e size v n xs) (hb : Below w.heap.size w w') : w'.ownsRow base e size v n xs := by
  refine ⟨h.1, ?_⟩
  rcases h.2 with h | ⟨g, cap, cur, rfl, hg, hh, r⟩
  · exact .inl h
  · have hlt : g < w.heap.size := by
      rcases Nat.lt_or_ge g w.heap.size with h' | h'
      · exact h'
      · rw [Array.getElem?_eq_none h'] at hh; cases hh
    exact .inr ⟨g, cap, cur, rfl, hg, (hb.block g hlt).trans hh, r⟩

theorem madeN (n : Nat) : (madeCells (Value.int .i64 0).cells (n * 1)).toList = cellsOf encN 1 (List.replicate n 0) := by
  apply List.ext_getElem?
  intro i
  by_cases hi : i < n
  · have h1 : (List.replicate n (0 : Int))[i]? = some 0 := by rw [List.getElem?_replicate, if_pos (by omega)]
    have h2 := cellsOf_get (enc := encN) (sz := 1) _ i 0 _ h1 (by omega)
    rw [show i * 1 + 0 = i by omega] at h2
    rw [h2]
    simp [madeCells, Value.cells, hi, encN, Nat.mod_one]
  · rw [List.getElem?_eq_none (by simp [madeCells]; omega), List.getElem?_eq_none (by rw [cellsOf_length, List.length_replicate]; omega)]

set_option maxHeartbeats 2000000 in
theorem toIntS_any (w : World) (A : Option Addr) (cap : Nat) (xs : List Int) (h : RdT encN 1 w A xs) (hc : xs.length ≤ cap) (hm : xs.length ≤ 1048576) :
    Calls Try.prog 105 #[.slice A xs.length cap] w (NPost w xs) := by
  have HR := Lib.hid h
  clear h
  obtain ⟨i0, hi, hz0, hz1, hz2⟩ := info_parts info_int
  go_enter Try.func105, Try.ntmps105
  go_wp2_with (at_make; refine wpList_make_full _ rfl _ _ 25 rfl w.heap.size 3 i0 _ 1 Try.underlying25 hi hz0 hz1 .i64 .i64 _ _ xs.length rfl rfl rfl rfl (by rw [hz2]; omega) (by unfold maxLen; omega) (Nat.le_refl _) ?_; intro w1 hown hgrow)
  have hB1 : Below w.heap.size w w1 := (Below.refl _ _).grown hgrow (Nat.le_refl _) (fun k hk => by cases hk)
  rw [madeN] at hown
  go_loopw [4] (fun i wr => ∃ k : Nat, k ≤ xs.length ∧ i = .int .i64 k ∧ Hid (wr.ownsRow w.heap.size 3 1 (.slice (some ⟨w.heap.size, 0, none⟩) xs.length xs.length) xs.length (cellsOf encN 1 (xs.take k ++ List.replicate (xs.length - k) 0))) ∧ Hid (Below w.heap.size w wr)) (fun i _ => xs.length - (intOf i).toNat)
  case atStart => exact ⟨0, Nat.zero_le _, rfl, Lib.hid (by simpa using hown), hB1⟩
  case round =>
    clear hown hgrow hB1
    obtain ⟨k, hk, rfl, HO, HB⟩ := hrel
    by_cases hlt : k < xs.length
    · obtain ⟨b, off, s, rfl, hb, he, c0⟩ := (HR.out.below HB.out).num hlt
      have HE := Lib.hid he
      clear he
      have hO2 := HO.out
      have hl : (cellsOf encN 1 (xs.take k ++ List.replicate (xs.length - k) 0)).length = xs.length * 1 := hO2.1
      obtain ⟨v0, hv0⟩ : ∃ v0, wr.cell? ⟨w.heap.size, k, none⟩ = some v0 := ⟨_, (hO2.cellAt k (by omega)).trans (List.getElem?_eq_getElem (by omega))⟩
      have hf0 := hO2.frozenAt k
      clear hO2 hl
      go_wp2_with fail
      go_roundw
      case rel =>
        refine ⟨k + 1, by omega, by go_num, ?_, ?_⟩
        · have h1 := (HO.out.stored k (.int .i64 s)).1
          have e := cellsOf_set1 (enc := encN) (xs.take k ++ List.replicate (xs.length - k) 0) k s (by simp; omega)
          rw [fill_set xs k s _ HE.out] at e
          rw [← e]
          exact h1
        · have := HB.out
          show Below _ _ _
          (repeat (first | assumption | exact Below.refl _ _ | refine below_alloc ?_ _ | refine Below.drew ?_ | refine below_drewN ?_ _ | refine below_set ?_ (by first | exact Nat.le_refl _ | omega | (simp; done) | (simp; omega)) _ | refine below_kp ?_ (by assumption) (by simp) | refine below_below ?_ (by assumption)))
      case measure => simp [intOf]; omega
    · obtain rfl : k = xs.length := by omega
      go_wp2_with fail
      go_ret
      refine ⟨_, rfl, ?_, HB.out⟩
      have := HO.out
      simpa [Own] using this

set_option maxHeartbeats 1000000 in
theorem eqIntS_true (w : World) (A B : Option Addr) (cap dap : Nat) (xs : List Int) (h : RdT encN 1 w A xs) (g : RdT encN 1 w B xs) (hc : xs.length ≤ cap) (hd : xs.length ≤ dap) (hm : cap ≤ 9223372036854775807) :
    Calls Try.prog 60 #[.slice A xs.length cap, .slice B xs.length dap] w fun e w' => e = .returned (.bool true) ∧ Below w.heap.size w w' := by
  have HR := Lib.hid h
  have HG := Lib.hid g
  clear h g
  go_enter Try.func60, Try.ntmps60
  go_wp2_with fail
  go_loopw [5] (fun i wr => ∃ k : Nat, k ≤ xs.length ∧ i = .int .i64 k ∧ Below w.heap.size w wr) (fun i _ => xs.length - (intOf i).toNat)
  case atStart => exact ⟨0, Nat.zero_le _, rfl, Below.refl _ _⟩
  case round =>
    obtain ⟨k, hk, rfl, hB⟩ := hrel
    have HB := Lib.hid hB
    clear hB
    by_cases hlt : k < xs.length
    · obtain ⟨b, off, s, rfl, hb, he, c0⟩ := (HR.out.below HB.out).num hlt
      obtain ⟨b', off', s', rfl, hb', he', c0'⟩ := (HG.out.below HB.out).num hlt
      obtain rfl : s = s' := by rw [he] at he'; cases he'; rfl
      clear he he'
      go_wp2_with fail
      refine wp_quiet_b (by kernel_rfl) (by kernel_rfl) (fun hgrow => ?_)
      repeat (go_big_quiet_step (fail))
      refine wpQuiet_nil ?_
      intro w2 hww2
      replace hww2 := below_of_regrown hww2
      clear hgrow
      go_wp2_with fail
      go_roundw
      case rel => exact ⟨k + 1, by omega, by go_num, by have := HB.out; (repeat (first | assumption | exact Below.refl _ _ | refine below_alloc ?_ _ | refine Below.drew ?_ | refine below_drewN ?_ _ | refine below_set ?_ (by first | exact Nat.le_refl _ | omega | (simp; done) | (simp; omega)) _ | refine below_kp ?_ (by assumption) (by simp) | refine below_below ?_ (by assumption)))⟩
      case measure => simp [intOf]; omega
    · obtain rfl : k = xs.length := by omega
      go_wp2_with fail
      go_ret
      exact ⟨rfl, HB.out⟩

open Go.ChangeShapes Go.WideShapes Go.ChangeAt in
/-- A list of numbers that came in, opened, out of its reading. -/
theorem open_nums {H : Type} {enc : TypeId × Value → H} {W : World} {base fuel : Nat} {v : Value} {x : DataW H × List MemPlace} (h : DataW.trod enc Try.prog W base (fun _ => true) true fuel 25 [v] = some x) :
    ∃ (A : Option Addr) (cap : Nat) (xs : List Int), v = .slice A xs.length cap ∧ xs.length ≤ cap ∧ cap ≤ 9223372036854775807 ∧ RdT encN 1 W A xs := by
  rcases open_ints Try.underlying25 Try.underlying3 (by kernel_rfl) h with ⟨hcs, _⟩ | ⟨x, l, c, zs, hcs, _, hl, hm, hz, hx, hcell, hwz⟩
  · simp at hcs
    subst hcs
    exact ⟨none, 0, [], rfl, Nat.le_refl _, by omega, RdT.none_⟩
  · simp at hcs
    subst hcs
    have hz' : zs.length = c := by simpa using hz
    have hlen : (zs.take l).length = l := by rw [List.length_take]; omega
    refine ⟨some x, c, zs.take l, by rw [hlen], by omega, by unfold maxLen at hm; omega, fun hn => ?_⟩
    have h0 : 0 < zs.length := by omega
    obtain ⟨b, off, spot⟩ := x
    have hs := spot_noneN (hcell 0 h0)
    have hspot : spot = none := by simpa [Addr.add] using hs
    subst hspot
    have hlt' : b < W.heap.size := by
      have := World.block_lt_of_cell? W _ (hcell 0 h0)
      simpa [Addr.add] using this
    refine ⟨b, off, rfl, hlt', fun i z hi j hj => ?_⟩
    obtain rfl : j = 0 := by omega
    have hi' : i < l := by
      rcases Nat.lt_or_ge i l with h | h
      · exact h
      · rw [List.getElem?_eq_none (by omega)] at hi; cases hi
    have := hcell i (by omega)
    rw [List.getElem?_take, if_pos hi'] at hi
    have e : zs.getD i 0 = z := by simp [List.getD, hi]
    rw [e] at this
    have ea : (⟨b, off, none⟩ : Addr).add i = ⟨b, off + i * 1 + 0, none⟩ := by
      unfold Addr.add
      split
      · next h => subst h; simp
      · simp
    rw [ea] at this
    exact this

end Go.Proofs.Ytomofiklodojeaa
