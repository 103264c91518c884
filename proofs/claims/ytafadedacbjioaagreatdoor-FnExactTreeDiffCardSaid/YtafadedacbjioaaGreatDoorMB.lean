/- Lists of pointers: what the laws' own helpers over them return; the argument opened. -/
import Derived.Test.YtafadedacbjioaaGreatDoorMA
import Derived.Deep.Slices
import Derived.Laws.ResultCell
import Derived.Lib.MinMax
import Derived.WideKeyPair
import Derived.Maps.Keyed
import Derived.Deep.OwnRows
import Derived.Deep.RegionWith
import Derived.StillTailTactics
import Derived.Maps.Own
namespace Go.Proofs.YtafadedacbjioaaGreatDoor
open Go.RowKit
set_option maxRecDepth 100000
set_option linter.unusedVariables false
set_option linter.unusedSimpArgs false

def encP (p : Pt) : Nat → Value
  | 0 => .int .i64 p.at_
  | 1 => .int .i64 p.birth
  | 2 => .int .i64 p.size
  | 3 => .int .i64 p.sum
  | _ => .int .i64 p.level
theorem oneP : OneC encP := fun x j => by
  rcases j with _ | _ | _ | _ | j <;> rfl
def zeroP : Pt := ⟨0, 0, 0, 0, 0⟩
theorem info_ptr : (Tryz.prog.info? 40).map (fun i => (i.zero, i.size, i.bytes)) = some (some (.agg #[.int .i64 0, .int .i64 0, .int .i64 0, .int .i64 0, .int .i64 0]), 5, 40) := by kernel_rfl
theorem elP : El 36 40 5 40 := El.mk' Tryz.underlying36 info_ptr rfl (by omega)

theorem RdT.ptr {w : World} {A : Option Addr} {xs : List Pt} {k : Nat} (h : RdT encP 5 w A xs) (hk : k < xs.length) :
    ∃ b off p, A = some ⟨b, off, none⟩ ∧ b < w.heap.size ∧ xs[k]? = some p ∧ w.cell? ⟨b, off + k * 5, none⟩ = some (.int .i64 p.at_) ∧ w.cell? ⟨b, off + k * 5 + 1, none⟩ = some (.int .i64 p.birth) ∧
      w.cell? ⟨b, off + k * 5 + 2, none⟩ = some (.int .i64 p.size) ∧ w.cell? ⟨b, off + k * 5 + 3, none⟩ = some (.int .i64 p.sum) ∧ w.cell? ⟨b, off + k * 5 + 4, none⟩ = some (.int .i64 p.level) := by
  obtain ⟨b, off, rfl, hb, hc⟩ := h (by omega)
  have he : xs[k]? = some xs[k] := List.getElem?_eq_getElem hk
  exact ⟨b, off, xs[k], rfl, hb, he, hc k _ he 0 (by omega), hc k _ he 1 (by omega), hc k _ he 2 (by omega), hc k _ he 3 (by omega), hc k _ he 4 (by omega)⟩

/-- Element k replaced: its five cells replaced. -/
theorem cellsOf_set5 {α : Type} {enc : α → Nat → Value} (l : List α) (k : Nat) (x : α) (hk : k < l.length) :
    (((((cellsOf enc 5 l).set (k * 5) (enc x 0)).set (k * 5 + 1) (enc x 1)).set (k * 5 + 2) (enc x 2)).set (k * 5 + 3) (enc x 3)).set (k * 5 + 4) (enc x 4) = cellsOf enc 5 (l.set k x) := by
  induction l generalizing k with
  | nil => simp at hk
  | cons y r ih =>
    cases k with
    | zero => simp [cellsOf, List.range_succ]
    | succ k =>
      have := ih k (by simpa using hk)
      simp only [List.set_cons_succ, cellsOf, ← this]
      simp [List.range_succ, Nat.add_mul]

theorem madeP (n : Nat) : (madeCells (Value.agg #[.int .i64 0, .int .i64 0, .int .i64 0, .int .i64 0, .int .i64 0]).cells (n * 5)).toList = cellsOf encP 5 (List.replicate n zeroP) := by
  apply List.ext_getElem?
  intro i
  by_cases hi : i < n * 5
  · have h1 : (List.replicate n zeroP)[i / 5]? = some zeroP := by rw [List.getElem?_replicate, if_pos (by omega)]
    have h2 := cellsOf_get (enc := encP) (sz := 5) _ (i / 5) (i % 5) _ h1 (by omega)
    rw [show i / 5 * 5 + i % 5 = i by omega] at h2
    rw [h2]
    rcases (show i % 5 = 0 ∨ i % 5 = 1 ∨ i % 5 = 2 ∨ i % 5 = 3 ∨ i % 5 = 4 by omega) with e | e | e | e | e <;> simp [madeCells, Value.cells, hi, e, encP, zeroP]
  · rw [List.getElem?_eq_none (by simp [madeCells]; omega), List.getElem?_eq_none (by rw [cellsOf_length, List.length_replicate]; omega)]

theorem ownsRow_belowP {w w' : World} {base : Nat} {e : TypeId} {size : Nat} {v : Value} {n : Nat} {xs : List Value} (h : w.ownsRow base e size v n xs) (hb : Below w.heap.size w w') : w'.ownsRow base e size v n xs := by
  refine ⟨h.1, ?_⟩
  rcases h.2 with h | ⟨g, cap, cur, rfl, hg, hh, r⟩
  · exact .inl h
  · have hlt : g < w.heap.size := by
      rcases Nat.lt_or_ge g w.heap.size with h' | h'
      · exact h'
      · rw [Array.getElem?_eq_none h'] at hh; cases hh
    exact .inr ⟨g, cap, cur, rfl, hg, (hb.block g hlt).trans hh, r⟩

def PPost (w : World) (xs : List Pt) (e : Ending) (w' : World) : Prop := ∃ v, e = .returned v ∧ Own encP 5 40 w.heap.size w' v xs ∧ Below w.heap.size w w'

theorem toPt_any (p : Pt) (w : World) : Calls Tryz.prog 41 #[p.v] w fun e w' => e = .returned p.v ∧ Below w.heap.size w w' := by
  obtain ⟨a, b, s, u, l⟩ := p
  unfold Pt.v
  dsimp only
  go_enter Tryz.func41, Tryz.ntmps41
  go_wp2_with fail
  refine bodyPost_ret (v := .agg #[.int .i64 a, .int .i64 b, .int .i64 s, .int .i64 u, .int .i64 l]) (by simp [results, Tryz.results41, go_sem]) rfl ⟨rfl, by (repeat (first | assumption | exact Below.refl _ _ | refine below_alloc ?_ _ | refine Below.drew ?_ | refine below_drewN ?_ _ | refine below_set ?_ (by first | exact Nat.le_refl _ | omega | (simp; done) | (simp; omega)) _ | refine below_kp ?_ (by assumption) (by simp) | refine below_below ?_ (by assumption)))⟩

theorem eqPtr_true (p : Pt) (w : World) : Calls Tryz.prog 48 #[p.v, p.v] w fun e w' => e = .returned (.bool true) ∧ Below w.heap.size w w' := by
  obtain ⟨a, b, s, u, l⟩ := p
  unfold Pt.v
  dsimp only
  go_enter Tryz.func48, Tryz.ntmps48
  go_wp2_with fail
  go_ret
  exact ⟨rfl, by (repeat (first | assumption | exact Below.refl _ _ | refine below_alloc ?_ _ | refine Below.drew ?_ | refine below_drewN ?_ _ | refine below_set ?_ (by first | exact Nat.le_refl _ | omega | (simp; done) | (simp; omega)) _ | refine below_kp ?_ (by assumption) (by simp) | refine below_below ?_ (by assumption)))⟩

set_option maxHeartbeats 2000000 in
theorem toPtrS_any (w : World) (A : Option Addr) (cap : Nat) (xs : List Pt) (h : RdT encP 5 w A xs) (hc : xs.length ≤ cap) (hm : xs.length ≤ 1048576) :
    Calls Tryz.prog 40 #[.slice A xs.length cap] w (PPost w xs) := by
  have HR := Lib.hid h
  clear h
  obtain ⟨i0, hi, hz0, hz1, hz2⟩ := info_parts info_ptr
  go_enter Tryz.func40, Tryz.ntmps40
  go_wp2_with (at_make; refine wpList_make_full _ rfl _ _ 36 rfl w.heap.size 40 i0 _ 5 Tryz.underlying36 hi hz0 hz1 .i64 .i64 _ _ xs.length rfl rfl rfl rfl (by rw [hz2]; omega) (by unfold maxLen; omega) (Nat.le_refl _) ?_; intro w1 hown hgrow)
  have hB1 : Below w.heap.size w w1 := (Below.refl _ _).grown hgrow (Nat.le_refl _) (fun k hk => by cases hk)
  rw [madeP] at hown
  go_loopw [4] (fun i wr => ∃ k : Nat, k ≤ xs.length ∧ i = .int .i64 k ∧ Hid (wr.ownsRow w.heap.size 40 5 (.slice (some ⟨w.heap.size, 0, none⟩) xs.length xs.length) xs.length (cellsOf encP 5 (xs.take k ++ List.replicate (xs.length - k) zeroP))) ∧ Hid (Below w.heap.size w wr)) (fun i _ => xs.length - (intOf i).toNat)
  case atStart => exact ⟨0, Nat.zero_le _, rfl, Lib.hid (by simpa using hown), hB1⟩
  case round =>
    clear hown hgrow hB1
    obtain ⟨k, hk, rfl, HO, HB⟩ := hrel
    by_cases hlt : k < xs.length
    · obtain ⟨b, off, p, rfl, hb, he, c0, c1, c2, c3, c4⟩ := (HR.out.below HB.out).ptr hlt
      have HE := Lib.hid he
      have HT := Lib.hid (toPt_any p)
      obtain ⟨pa, pb, ps, pu, pl⟩ := p
      unfold Pt.v at HT
      dsimp only at c0 c1 c2 c3 c4 HT
      clear he
      go_wp2_with fail
      refine Calls.mono (HT.out _) ?_
      rintro e w2 ⟨rfl, hB2⟩
      have hO2 : w2.ownsRow w.heap.size 40 5 (.slice (some ⟨w.heap.size, 0, none⟩) xs.length xs.length) xs.length (cellsOf encP 5 (xs.take k ++ List.replicate (xs.length - k) zeroP)) := ownsRow_belowP HO.out hB2
      have hl : (cellsOf encP 5 (xs.take k ++ List.replicate (xs.length - k) zeroP)).length = xs.length * 5 := hO2.1
      have hcell : ∀ j, j < 5 → ∃ v, w2.cell? ⟨w.heap.size, k * 5 + j, none⟩ = some v := fun j hj => ⟨_, (hO2.cellAt (k * 5 + j) (by omega)).trans (List.getElem?_eq_getElem (by omega))⟩
      obtain ⟨v0, hv0⟩ := hcell 0 (by omega)
      obtain ⟨v1, hv1⟩ := hcell 1 (by omega)
      obtain ⟨v2, hv2⟩ := hcell 2 (by omega)
      obtain ⟨v3, hv3⟩ := hcell 3 (by omega)
      obtain ⟨v4, hv4⟩ := hcell 4 (by omega)
      rw [Nat.add_zero] at hv0
      have hf0 := hO2.frozenAt (k * 5)
      have hf1 := hO2.frozenAt (k * 5 + 1)
      have hf2 := hO2.frozenAt (k * 5 + 2)
      have hf3 := hO2.frozenAt (k * 5 + 3)
      have hf4 := hO2.frozenAt (k * 5 + 4)
      have HO2 := Lib.hid hO2
      have HB2 := Lib.hid hB2
      clear hO2 hl hB2 hcell
      go_wp2_with fail
      go_roundw
      case rel =>
        refine ⟨k + 1, by omega, by go_num, ?_, ?_⟩
        · have h1 := (((((HO2.out.stored (k * 5) (.int .i64 pa)).1.stored (k * 5 + 1) (.int .i64 pb)).1.stored (k * 5 + 2) (.int .i64 ps)).1.stored (k * 5 + 3) (.int .i64 pu)).1.stored (k * 5 + 4) (.int .i64 pl)).1
          have e := cellsOf_set5 (enc := encP) (xs.take k ++ List.replicate (xs.length - k) zeroP) k ⟨pa, pb, ps, pu, pl⟩ (by simp; omega)
          rw [fill_set xs k ⟨pa, pb, ps, pu, pl⟩ _ HE.out] at e
          rw [← e]
          exact h1
        · have := HB.out
          have := HB2.out
          show Below _ _ _
          (repeat (first | assumption | exact Below.refl _ _ | refine below_alloc ?_ _ | refine Below.drew ?_ | refine below_drewN ?_ _ | refine below_set ?_ (by first | exact Nat.le_refl _ | omega | (simp; done) | (simp; omega)) _ | refine below_kp ?_ (by assumption) (by simp) | refine below_below ?_ (by assumption)))
      case measure => simp [intOf]; omega
    · obtain rfl : k = xs.length := by omega
      go_wp2_with fail
      go_ret
      refine ⟨_, rfl, ?_, HB.out⟩
      have := HO.out
      simpa [Own] using this

set_option maxHeartbeats 1000000 in
theorem eqPtrS_true (w : World) (A B : Option Addr) (cap dap : Nat) (xs : List Pt) (h : RdT encP 5 w A xs) (g : RdT encP 5 w B xs) (hc : xs.length ≤ cap) (hd : xs.length ≤ dap) (hm : cap ≤ 9223372036854775807) :
    Calls Tryz.prog 18 #[.slice A xs.length cap, .slice B xs.length dap] w fun e w' => e = .returned (.bool true) ∧ Below w.heap.size w w' := by
  have HR := Lib.hid h
  have HG := Lib.hid g
  clear h g
  go_enter Tryz.func18, Tryz.ntmps18
  go_wp2_with fail
  go_loopw [5] (fun i wr => ∃ k : Nat, k ≤ xs.length ∧ i = .int .i64 k ∧ Below w.heap.size w wr) (fun i _ => xs.length - (intOf i).toNat)
  case atStart => exact ⟨0, Nat.zero_le _, rfl, Below.refl _ _⟩
  case round =>
    obtain ⟨k, hk, rfl, hB⟩ := hrel
    have HB := Lib.hid hB
    clear hB
    by_cases hlt : k < xs.length
    · obtain ⟨b, off, p, rfl, hb, he, c0, c1, c2, c3, c4⟩ := (HR.out.below HB.out).ptr hlt
      obtain ⟨b', off', p', rfl, hb', he', c0', c1', c2', c3', c4'⟩ := (HG.out.below HB.out).ptr hlt
      obtain rfl : p = p' := by rw [he] at he'; cases he'; rfl
      have HT := Lib.hid (eqPtr_true p)
      obtain ⟨pa, pb, ps, pu, pl⟩ := p
      unfold Pt.v at HT
      dsimp only at c0 c1 c2 c3 c4 c0' c1' c2' c3' c4' HT
      clear he he'
      go_wp2_with fail
      refine wp_quiet_b (by kernel_rfl) (by kernel_rfl) (fun hgrow => ?_)
      repeat (go_big_quiet_step ((go_at_call 48; exact quiet_b (HT.out _))))
      refine wpQuiet_nil ?_
      intro w2 hww2
      replace hww2 := below_of_regrown hww2
      clear hgrow
      go_wp2_with fail
      go_roundw
      case rel => exact ⟨k + 1, by omega, by go_num, by have := HB.out; (repeat (first | assumption | exact Below.refl _ _ | refine below_alloc ?_ _ | refine Below.drew ?_ | refine below_drewN ?_ _ | refine below_set ?_ (by first | exact Nat.le_refl _ | omega | (simp; done) | (simp; omega)) _ | refine below_kp ?_ (by assumption) (by simp) | refine below_below ?_ (by assumption)))⟩
      case measure => simp [intOf]; omega
    · obtain rfl : k = xs.length := by omega
      go_wp2_with fail
      go_ret
      exact ⟨rfl, HB.out⟩

def SzQ (w : World) (left : Int) (n : Nat) (e : Ending) (w' : World) : Prop := ∃ r : Int, e = .returned (.int .i64 r) ∧ -1 ≤ r ∧ r ≤ left ∧ (0 ≤ r → r + (n : Int) = left) ∧ w = w'

theorem szPtrS_any (w : World) (A : Option Addr) (n c : Nat) (left : Int) (hn : n ≤ 9223372036854775807) (h0 : 0 ≤ left) (h1 : left ≤ 1048576) :
    Calls Tryz.prog 37 #[.slice A n c, .int .i64 left] w (SzQ w left n) := by
  by_cases h : left - (n : Int) < 0
  · go_enter Tryz.func37, Tryz.ntmps37
    go_wp2
    go_ret
    exact ⟨-1, rfl, by omega, by omega, by omega, rfl⟩
  · go_enter Tryz.func37, Tryz.ntmps37
    go_wp2
    go_ret
    exact ⟨left - n, rfl, by omega, by omega, by omega, rfl⟩

/-- The marks from k on. -/
def markP (k n : Nat) : List Pt := (List.range n).map fun i => ⟨(k + 5 * i : Nat), (k + 5 * i + 1 : Nat), (k + 5 * i + 2 : Nat), (k + 5 * i + 3 : Nat), (k + 5 * i + 4 : Nat)⟩
theorem markP_length (k n : Nat) : (markP k n).length = n := by simp [markP]
theorem markP_get (k n i : Nat) (h : i < n) : (markP k n)[i]? = some ⟨(k + 5 * i : Nat), (k + 5 * i + 1 : Nat), (k + 5 * i + 2 : Nat), (k + 5 * i + 3 : Nat), (k + 5 * i + 4 : Nat)⟩ := by simp [markP, h]

set_option maxHeartbeats 2000000 in
theorem heldPtrS_any (w : World) (A : Option Addr) (cap n k : Nat) (h : RdT encP 5 w A (markP k n)) (hc : n ≤ cap) (hn : n ≤ 1048576) (hk2 : k ≤ 10485920) :
    Calls Tryz.prog 21 #[.slice A n cap, .int .i64 k] w fun e w' => e = .returned (.int .i64 ((k + 5 * n : Nat) : Int)) ∧ w = w' := by
  have HR := Lib.hid h
  clear h
  go_enter Tryz.func21, Tryz.ntmps21
  go_wp2_with fail
  go_loop [1, 5] (fun x y => ∃ (i K : Nat), i ≤ n ∧ K = k + 5 * i ∧ x = .int .i64 K ∧ y = .int .i64 i) (fun x y => n - (intOf y).toNat)
  case atStart => exact ⟨0, k, Nat.zero_le _, by omega, rfl, rfl⟩
  case round =>
    obtain ⟨i, K, hi, hK, rfl, rfl⟩ := hrel
    have HK := Lib.hid hK
    have hKb : K ≤ 20000000 := by omega
    clear hK
    by_cases hlt : i < n
    · obtain ⟨b, off, p, rfl, hb, he, c0, c1, c2, c3, c4⟩ := HR.out.ptr (k := i) (by rw [markP_length]; exact hlt)
      rw [markP_get _ _ _ hlt, ← HK.out] at he
      cases he
      dsimp only at c0 c1 c2 c3 c4
      simp only [Int.natCast_add, Int.cast_ofNat_Int] at c0 c1 c2 c3 c4
      have e1 : (K : Int) + 1 + 1 = (K : Int) + 2 := by omega
      have e2 : (K : Int) + 2 + 1 = (K : Int) + 3 := by omega
      have e3 : (K : Int) + 3 + 1 = (K : Int) + 4 := by omega
      go_wp2_with fail
      go_round
      case rel => exact ⟨i + 1, K + 5, by omega, by have := HK.out; omega, by go_num, by go_num⟩
      case measure => simp [intOf]; omega
    · obtain rfl : i = n := by omega
      have hKe := HK.out
      subst hKe
      go_wp2_with fail
      go_ret
      exact ⟨rfl, rfl⟩

/-- The block of a row of the call's own, as a list. -/
def exP (v : Value) : List Nat := match v.ownBlock with | some b => [b] | none => []

def MarkPostP (base k n : Nat) (w : World) (v : Value) (e : Ending) (w' : World) : Prop := e = .returned (.int .i64 ((k + 5 * n : Nat) : Int)) ∧ Own encP 5 40 base w' v (markP k n) ∧ Kp (exP v) w w'

theorem markP_mix (k n i : Nat) (es : List Pt) (hn : es.length = n) (hi : i < n) : ((markP k n).take i ++ es.drop i).set i ⟨(k + 5 * i : Nat), (k + 5 * i + 1 : Nat), (k + 5 * i + 2 : Nat), (k + 5 * i + 3 : Nat), (k + 5 * i + 4 : Nat)⟩ = (markP k n).take (i + 1) ++ es.drop (i + 1) := by
  apply List.ext_getElem?
  intro j
  have h1 : ((markP k n).take i).length = i := by rw [List.length_take, markP_length]; omega
  have h2 : ((markP k n).take (i + 1)).length = i + 1 := by rw [List.length_take, markP_length]; omega
  by_cases hj : j < i
  · rw [List.getElem?_set_ne (by omega), List.getElem?_append_left (by omega), List.getElem?_append_left (by omega), List.getElem?_take, List.getElem?_take, if_pos hj, if_pos (by omega)]
  · by_cases hj2 : j = i
    · subst hj2
      rw [List.getElem?_set_self (by simp [markP_length]; omega), List.getElem?_append_left (by omega), List.getElem?_take, if_pos (by omega), markP_get _ _ _ hi]
    · rw [List.getElem?_set_ne (by omega), List.getElem?_append_right (by omega), List.getElem?_append_right (by omega), h1, h2, List.getElem?_drop, List.getElem?_drop]
      congr 1
      omega

set_option maxHeartbeats 2000000 in
theorem markPtrS_at (base : Nat) (w : World) (g cap k : Nat) (es : List Pt) (h : Own encP 5 40 base w (.slice (some ⟨g, 0, none⟩) es.length cap) es) (hn : es.length ≤ 1048576) (hk2 : k ≤ 10485920) (hg : g < w.heap.size) :
    Calls Tryz.prog 20 #[.slice (some ⟨g, 0, none⟩) es.length cap, .int .i64 k] w (MarkPostP base k es.length w (.slice (some ⟨g, 0, none⟩) es.length cap)) := by
  have HO := Lib.hid (show w.ownsRow base 40 5 (.slice (some ⟨g, 0, none⟩) es.length cap) es.length (cellsOf encP 5 es) from h)
  obtain ⟨A, cap', hv, hcc, hcm, _, _⟩ := h.form
  cases hv
  clear h
  go_enter Tryz.func20, Tryz.ntmps20
  go_wp2_with fail
  go_loopw [1, 5] (fun x y wr => ∃ (i K : Nat), i ≤ es.length ∧ K = k + 5 * i ∧ x = .int .i64 K ∧ y = .int .i64 i ∧ Hid (wr.ownsRow base 40 5 (.slice (some ⟨g, 0, none⟩) es.length cap) es.length (cellsOf encP 5 ((markP k es.length).take i ++ es.drop i))) ∧ Hid (Kp [g] w wr)) (fun x y _ => es.length - (intOf y).toNat)
  case atStart => exact ⟨0, k, Nat.zero_le _, by omega, rfl, rfl, by simpa using HO, Lib.hid (Kp.refl _ _)⟩
  case round =>
    obtain ⟨i, K, hi, hK, rfl, rfl, HW, HB⟩ := hrel
    have HK := Lib.hid hK
    have hKb : K ≤ 20000000 := by omega
    clear hK
    by_cases hlt : i < es.length
    · have hO2 := HW.out
      have hl : (cellsOf encP 5 ((markP k es.length).take i ++ es.drop i)).length = es.length * 5 := hO2.1
      have hcell : ∀ j, j < 5 → ∃ v, wr.cell? ⟨g, i * 5 + j, none⟩ = some v := fun j hj => ⟨_, (hO2.cellAt (i * 5 + j) (by omega)).trans (List.getElem?_eq_getElem (by omega))⟩
      obtain ⟨v0, hv0⟩ := hcell 0 (by omega)
      obtain ⟨v1, hv1⟩ := hcell 1 (by omega)
      obtain ⟨v2, hv2⟩ := hcell 2 (by omega)
      obtain ⟨v3, hv3⟩ := hcell 3 (by omega)
      obtain ⟨v4, hv4⟩ := hcell 4 (by omega)
      rw [Nat.add_zero] at hv0
      have hf0 := hO2.frozenAt (i * 5)
      have hf1 := hO2.frozenAt (i * 5 + 1)
      have hf2 := hO2.frozenAt (i * 5 + 2)
      have hf3 := hO2.frozenAt (i * 5 + 3)
      have hf4 := hO2.frozenAt (i * 5 + 4)
      clear hO2 hl hcell
      go_wp2_with fail
      go_roundw
      case rel =>
        refine ⟨i + 1, K + 5, by omega, by have := HK.out; omega, by go_num, by go_num, ?_, ?_⟩
        · have h1 := (((((HW.out.stored (i * 5) (.int .i64 (K : Int))).1.stored (i * 5 + 1) (.int .i64 ((K : Int) + 1))).1.stored (i * 5 + 2) (.int .i64 ((K : Int) + 1 + 1))).1.stored (i * 5 + 3) (.int .i64 ((K : Int) + 1 + 1 + 1))).1.stored (i * 5 + 4) (.int .i64 ((K : Int) + 1 + 1 + 1 + 1))).1
          have e := cellsOf_set5 (enc := encP) ((markP k es.length).take i ++ es.drop i) i ⟨(k + 5 * i : Nat), (k + 5 * i + 1 : Nat), (k + 5 * i + 2 : Nat), (k + 5 * i + 3 : Nat), (k + 5 * i + 4 : Nat)⟩ (by simp [markP_length]; omega)
          rw [markP_mix k es.length i es rfl hlt, ← HK.out] at e
          rw [← e]
          exact h1
        · exact Lib.hid (((((HB.out.setCell (.inl (by simp)) _).setCell (.inl (by simp)) _).setCell (.inl (by simp)) _).setCell (.inl (by simp)) _).setCell (.inl (by simp)) _)
      case measure => simp [intOf]; omega
    · obtain rfl : i = es.length := by omega
      have hKe := HK.out
      subst hKe
      have HX := Lib.hid (show Own encP 5 40 base wr (.slice (some ⟨g, 0, none⟩) es.length cap) (markP k es.length) by
        have := HW.out
        rw [List.take_of_length_le (by rw [markP_length]; exact Nat.le_refl _), List.drop_of_length_le (Nat.le_refl _), List.append_nil] at this
        unfold Own
        rw [markP_length]
        exact this)
      go_wp2_with fail
      go_ret
      exact ⟨rfl, HX.out, HB.out⟩

theorem markPtrS_any (base : Nat) (w : World) (v : Value) (k : Nat) (es : List Pt) (h : Own encP 5 40 base w v es) (hn : es.length ≤ 1048576) (hk2 : k ≤ 10485920) :
    Calls Tryz.prog 20 #[v, .int .i64 k] w (MarkPostP base k es.length w v) := by
  have h' := h
  rcases h.2 with ⟨rfl, h0⟩ | ⟨g, cap, cur, rfl, hg, hh, _⟩
  · have he : es = [] := List.length_eq_zero_iff.1 h0
    subst he
    have HX := Lib.hid (show Own encP 5 40 base w (.slice none 0 0) (markP k 0) from Own.nil)
    clear h h'
    go_enter Tryz.func20, Tryz.ntmps20
    go_wp2_with fail
    go_loopw [1, 5] (fun x y wr => x = .int .i64 k ∧ y = .int .i64 0 ∧ wr = w) (fun x y _ => 0)
    case atStart => exact ⟨rfl, rfl, rfl⟩
    case round =>
      obtain ⟨rfl, rfl, rfl⟩ := hrel
      go_wp2_with fail
      go_ret
      exact ⟨rfl, HX.out, Kp.refl _ _⟩
  · have hlt : g < w.heap.size := by
      rcases Nat.lt_or_ge g w.heap.size with h' | h'
      · exact h'
      · rw [Array.getElem?_eq_none h'] at hh; cases hh
    exact markPtrS_at base w g cap k es h' hn hk2 hlt

instance : Inhabited Pt := ⟨zeroP⟩
open Go.ChangeShapes Go.WideShapes Go.ChangeAt in
/-- One pointer's cells, out of its reading. -/
theorem pt_of_trod {H : Type} {enc : TypeId × Value → H} {W : World} {base : Nat} {n : Nat} {cs : List Value} {x : DataW H × List MemPlace} (hlen : cs.length = 5) (h : DataW.trod enc Tryz.prog W base (fun _ => true) true n 30 cs = some x) :
    ∃ p : Pt, ∀ j, j < 5 → cs[j]? = some (encP p j) := by
  have c1 : Tryz.prog.cellsOf 3 = 1 := by kernel_rfl
  match cs, hlen with
  | [v0, v1, v2, v3, v4], _ =>
    obtain ⟨n0, y0, t0⟩ := trod_at Tryz.underlying30 h 0 rfl rfl rfl c1 rfl
    obtain ⟨n1, y1, t1⟩ := trod_at Tryz.underlying30 h 1 rfl rfl rfl c1 rfl
    obtain ⟨n2, y2, t2⟩ := trod_at Tryz.underlying30 h 2 rfl rfl rfl c1 rfl
    obtain ⟨n3, y3, t3⟩ := trod_at Tryz.underlying30 h 3 rfl rfl rfl c1 rfl
    obtain ⟨n4, y4, t4⟩ := trod_at Tryz.underlying30 h 4 rfl rfl rfl c1 rfl
    obtain ⟨z0, e0, _, _⟩ := DataW.trod_int Tryz.underlying3 t0
    obtain ⟨z1, e1, _, _⟩ := DataW.trod_int Tryz.underlying3 t1
    obtain ⟨z2, e2, _, _⟩ := DataW.trod_int Tryz.underlying3 t2
    obtain ⟨z3, e3, _, _⟩ := DataW.trod_int Tryz.underlying3 t3
    obtain ⟨z4, e4, _, _⟩ := DataW.trod_int Tryz.underlying3 t4
    cases e0; cases e1; cases e2; cases e3; cases e4
    exact ⟨⟨z0, z1, z2, z3, z4⟩, fun j hj => by
      rcases (show j = 0 ∨ j = 1 ∨ j = 2 ∨ j = 3 ∨ j = 4 by omega) with rfl | rfl | rfl | rfl | rfl <;> rfl⟩

open Go.ChangeShapes Go.WideShapes Go.ChangeAt in
/-- A list of pointers that came in, opened, out of its reading. -/
theorem open_ptrs {H : Type} {enc : TypeId × Value → H} {W : World} {base fuel : Nat} {v : Value} {x : DataW H × List MemPlace} (h : DataW.trod enc Tryz.prog W base (fun _ => true) true fuel 26 [v] = some x) :
    ∃ (A : Option Addr) (cap : Nat) (xs : List Pt), v = .slice A xs.length cap ∧ xs.length ≤ cap ∧ cap ≤ 9223372036854775807 ∧ RdT encP 5 W A xs := by
  have c5 : Tryz.prog.cellsOf 30 = 5 := by kernel_rfl
  rcases Deep.open_slice Tryz.underlying26 h with ⟨hcs, _⟩ | ⟨a, len, cap, m, n, D, Pl, hcs, _, hl, hm, hmm, _, hx⟩
  · cases hcs
    exact ⟨none, 0, [], rfl, Nat.le_refl _, by omega, RdT.none_⟩
  · cases hcs
    have hm' : m = cap := by simpa using hmm
    subst hm'
    rw [c5] at hx
    have each : ∀ i, i < len → ∃ p : Pt, ∀ j, j < 5 → W.cell? (a.add (i * 5 + j)) = some (encP p j) := fun i hi => by
      obtain ⟨cs', h1, h2⟩ := hx i (by omega)
      obtain ⟨_, hlen, hcell⟩ := World.cells?_some h1
      obtain ⟨p, hp⟩ := pt_of_trod hlen h2
      refine ⟨p, fun j hj => ?_⟩
      rw [← Deep.add_add, hcell j hj]
      exact hp j hj
    obtain ⟨q, hq⟩ := Deep.choose_lt each
    have hlen : ((List.range len).map q).length = len := by simp
    refine ⟨some a, m, (List.range len).map q, by rw [hlen], by omega, by unfold maxLen at hm; omega, fun hn => ?_⟩
    rw [hlen] at hn
    obtain ⟨b, off, spot⟩ := a
    have h00 := hq 0 hn 0 (by omega)
    have hspot : spot = none := by
      have := World.cell?_spot h00
      simpa [Addr.add] using this
    subst hspot
    have hlt' : b < W.heap.size := by
      have := World.block_lt_of_cell? W _ h00
      simpa [Addr.add] using this
    refine ⟨b, off, rfl, hlt', fun i x hx j hj => ?_⟩
    have hi : i < len := by
      rcases Nat.lt_or_ge i len with h | h
      · exact h
      · rw [List.getElem?_eq_none (by simp; omega)] at hx; cases hx
    rw [List.getElem?_map, List.getElem?_range hi] at hx
    simp only [Option.map_some, Option.some.injEq] at hx
    subst hx
    have := hq i hi j hj
    rw [addr_add] at this
    rw [Nat.add_assoc]
    exact this
open Go.ChangeShapes Go.WideShapes Go.ChangeAt in
theorem open_ptrs' {H : Type} {enc : TypeId × Value → H} {W : World} {r : Reach} {b0 base : Nat} {v : Value} {dd : DataW H} {p : List MemPlace} (hval : Value.okWide Tryz.prog W r b0 26 v) (h : DataW.Trod enc Tryz.prog W base (fun _ => true) true 26 v dd p) :
    ∃ (A : Option Addr) (cap : Nat) (xs : List Pt), v = .slice A xs.length cap ∧ xs.length ≤ cap ∧ cap ≤ 9223372036854775807 ∧ RdT encP 5 W A xs := by
  obtain ⟨a0, len0, cap0, rfl⟩ := okWide_slice Tryz.underlying26 hval
  obtain ⟨fuel, hf⟩ := h
  exact open_ptrs (v := .slice a0 len0 cap0) hf

end Go.Proofs.YtafadedacbjioaaGreatDoor

/- The pointers of an indirect block: both texts' walks. -/
namespace Go.Proofs.YtafadedacbjioaaGreatDoor
open Go.RowKit Go.Sort
set_option maxRecDepth 100000
set_option linter.unusedVariables false
set_option linter.unusedSimpArgs false

theorem rd_onePF (w : World) (a b c d e : Int) : RdT encP 5 (w.alloc (.cells #[.int .i64 a, .int .i64 b, .int .i64 c, .int .i64 d, .int .i64 e] 40)) (some ⟨w.heap.size, 0, none⟩) [(⟨a, b, c, d, e⟩ : Pt)] := fun _ => ⟨w.heap.size, 0, rfl, by simp, fun i y hy j hj => by
  have : i = 0 := by
    rcases i with _ | i
    · rfl
    · simp at hy
  subst this
  simp at hy
  subst hy
  have hb := box_new w #[.int .i64 a, .int .i64 b, .int .i64 c, .int .i64 d, .int .i64 e] 40
  rw [hb.cell]
  match j, hj with
  | 0, _ => rfl
  | 1, _ => rfl
  | 2, _ => rfl
  | 3, _ => rfl
  | 4, _ => rfl⟩
theorem rd_onePAt {w : World} {k : Nat} {a b c d e : Int} (h : k = w.heap.size) : RdT encP 5 (w.alloc (.cells #[.int .i64 a, .int .i64 b, .int .i64 c, .int .i64 d, .int .i64 e] 40)) (some ⟨k, 0, none⟩) [(⟨a, b, c, d, e⟩ : Pt)] := by
  subst h
  exact rd_onePF w a b c d e
theorem own_emptyAt {base k : Nat} {w : World} (h : k = w.heap.size) (hb : base ≤ w.heap.size) : Own encP 5 40 base (w.alloc (.cells #[] 40)) (.slice (some ⟨k, 0, none⟩) 0 0) ([] : List Pt) := by
  subst h
  exact Own.empty hb
theorem own_allocPF {base : Nat} {w : World} {v : Value} {xs : List Pt} (h : Own encP 5 40 base w v xs) (o : Obj) : Own encP 5 40 base (w.alloc o) v xs := h.below ((Below.refl _ _).alloc (Nat.le_refl _) o)
def PlaceP (w : World) (b : Bool) (e : Ending) (w' : World) : Prop := ∃ z : Int, e = .returned (.int .i64 z) ∧ decide (0 ≤ z) = b ∧ -1 ≤ z ∧ Below w.heap.size w w'
theorem own_lowerF {base base' : Nat} {w : World} {v : Value} {xs : List Pt} (h : Own encP 5 40 base w v xs) (hb : base' ≤ base) : Own encP 5 40 base' w v xs := by
  refine ⟨h.1, ?_⟩
  rcases h.2 with h | ⟨g, cap, cur, rfl, hg, r⟩
  · exact .inl h
  · exact .inr ⟨g, cap, cur, rfl, Nat.le_trans hb hg, r⟩
def GetF (w : World) (s : ByteArray) (e : Ending) (w' : World) : Prop := ∃ (v : Value) (l : List Pt) (b : Bool), e = .returned (.tuple #[v, .bool b]) ∧ FanG s l b ∧ Own encP 5 40 w.heap.size w' v l ∧ Below w.heap.size w w'
def nhB (p : Pt) : Bool := !holeB p
def someB (l : List Pt) : Bool := l.any nhB
theorem someB_snoc (l : List Pt) (p : Pt) : someB (l ++ [p]) = (someB l || !holeB p) := by simp [someB, nhB]
theorem someB_no {l : List Pt} (h : someB l = false) : ∀ p ∈ l, holeB p = true := by
  intro p hp
  have := List.any_eq_false.1 h p hp
  simpa [nhB] using this
theorem someB_yes {l : List Pt} (h : someB l = true) : ∃ p ∈ l, holeB p = false := by
  obtain ⟨p, hp, h⟩ := List.any_eq_true.1 h
  exact ⟨p, hp, by simpa [nhB] using h⟩
theorem notHoleC_any (p : Pt) (w : World) : Calls Tryz.prog 103 #[p.v] w fun e w' => e = .returned (.bool (nhB p)) ∧ Below w.heap.size w w' := by
  have HN := Lib.hid (fun w => ptrHole_any p w)
  obtain ⟨a, b, c, d, e⟩ := p
  unfold Pt.v at *
  dsimp only at *
  have HBa := Lib.hid (below_alloc (Below.refl w.heap.size w) (.cells #[.int .i64 a, .int .i64 b, .int .i64 c, .int .i64 d, .int .i64 e] 40))
  unfold nhB
  cases hb : holeB ⟨a, b, c, d, e⟩
  all_goals
    rw [hb] at HN
    go_enter Tryz.func103, Tryz.ntmps103
    go_wp2_with fail
    refine Calls.mono (HN.out _) ?_
    rintro e w1 ⟨rfl, hB⟩
    have HB := Lib.hid (below_below HBa.out hB)
    clear hB
    go_wp2_with fail
    go_ret
    exact ⟨rfl, HB.out⟩

set_option maxHeartbeats 2000000 in
theorem idxH_any (w : World) (A : Option Addr) (cap : Nat) (xs : List Pt) (h : RdT encP 5 w A xs) (hc : xs.length ≤ cap) (hm : cap ≤ 9223372036854775807) (hn : xs.length ≤ 1048576) :
    Calls Tryz.prog 96 #[.slice A xs.length cap, .func (.func 103) #[] #[]] w (PlaceP w (xs.any nhB)) := by
  have HR := Lib.hid h
  skip
  clear h
  go_enter Tryz.func96, Tryz.ntmps96
  go_wp2_with fail
  go_loopw [8] (fun i wr => ∃ k : Nat, k ≤ xs.length ∧ i = .int .i64 k ∧ Hid (∀ x ∈ xs.take k, nhB x = false) ∧ Hid (Below w.heap.size w wr)) (fun i _ => xs.length - (intOf i).toNat)
  case atStart => exact ⟨0, Nat.zero_le _, rfl, Lib.hid (fun x hx => by simp at hx), Lib.hid (Below.refl _ _)⟩
  case round =>
    obtain ⟨k, hk, rfl, HN, HB⟩ := hrel
    by_cases hlt : k < xs.length
    · obtain ⟨b, off, p, rfl, hb, he, c0, c1, c2, c3, c4⟩ := (HR.out.below HB.out).ptr hlt
      have k2 : IntKind.i64.wrap ((k : Int) + 1) = (k : Int) + 1 := IntWalk.i64_in _ (by omega)
      have HC := Lib.hid (notHoleC_any p wr)
      obtain ⟨pa, pb, ps, pu, pl⟩ := p
      unfold Pt.v at HC
      dsimp only at HC c0 c1 c2 c3 c4
      cases hx : nhB ⟨pa, pb, ps, pu, pl⟩
      · have HN2 := Lib.hid (show ∀ x ∈ xs.take (k + 1), nhB x = false by
          rw [List.take_add_one, he]
          intro y hy
          rcases List.mem_append.1 hy with hy | hy
          · exact HN.out y hy
          · simp at hy; rw [hy]; exact hx)
        rw [hx] at HC
        clear he hx
        go_wp2_with fail
        refine Calls.mono HC.out ?_
        rintro e w1 ⟨rfl, hB⟩
        have HB2 := Lib.hid (below_below HB.out hB)
        clear hB
        go_wp2_with fail
        exact ⟨⟨k + 1, by omega, by go_num, HN2, HB2⟩, by simp [intOf]; omega⟩
      · have HA := Lib.hid (show xs.any nhB = true from List.any_eq_true.2 ⟨_, List.mem_of_getElem? he, hx⟩)
        rw [hx] at HC
        clear he hx
        go_wp2_with fail
        refine Calls.mono HC.out ?_
        rintro e w1 ⟨rfl, hB⟩
        have HB2 := Lib.hid (below_below HB.out hB)
        clear hB
        go_wp2_with fail
        go_ret
        refine (?_ : PlaceP w (xs.any nhB) _ _)
        rw [HA.out]
        exact ⟨k, rfl, by simp, by omega, HB2.out⟩
    · obtain rfl : k = xs.length := by omega
      have HA := Lib.hid (show xs.any nhB = false by
        rw [List.any_eq_false]
        intro x hx
        have := HN.out x (by rw [List.take_length]; exact hx)
        rw [this]; simp)
      go_wp2_with fail
      go_ret
      refine (?_ : PlaceP w (xs.any nhB) _ _)
      rw [HA.out]
      exact ⟨-1, rfl, by decide, by omega, HB.out⟩
theorem contH_any (w : World) (A : Option Addr) (cap : Nat) (xs : List Pt) (h : RdT encP 5 w A xs) (hc : xs.length ≤ cap) (hm : cap ≤ 9223372036854775807) (hn : xs.length ≤ 1048576) :
    Calls Tryz.prog 85 #[.slice A xs.length cap, .func (.func 103) #[] #[]] w fun e w' => e = .returned (.bool (xs.any nhB)) ∧ Below w.heap.size w w' := by
  have HI := Lib.hid (idxH_any w A cap xs h hc hm hn)
  clear h
  go_enter Tryz.func85, Tryz.ntmps85
  go_wp2_with fail
  refine Calls.mono HI.out ?_
  rintro e w1 ⟨z, rfl, hz, h1, hB⟩
  have HB := Lib.hid hB
  have HZ := Lib.hid hz
  clear hB hz
  go_wp2_with fail
  go_ret
  exact ⟨ret_bool HZ.out, HB.out⟩
def fanT (l : List Pt) : ByteArray := ofL (Lib.join ((l.map ptrT).map (·.data.toList)) [44])
theorem joinComma_any (w : World) (A : Option Addr) (cap : Nat) (xs : List ByteArray) (h : RdT encS 1 w A xs) (hn : 0 < xs.length) (hc : xs.length ≤ cap) (hlen : (Lib.join (xs.map (·.data.toList)) [44]).length ≤ 1000) (hx : xs.length ≤ 10) :
    Calls Tryz.prog 104 #[.slice A xs.length cap, .string ⟨#[44]⟩] w fun e w' => e = .returned (.string (ofL (Lib.join (xs.map (·.data.toList)) [44]))) ∧ Below w.heap.size w w' := by
  obtain ⟨b, off, rfl, hb, hr⟩ := h hn
  exact Tryz.strings_Join b off cap xs ⟨#[44]⟩ w (fun j x hj => by have := hr j x hj 0 (by omega); simpa [encS] using this) hb (by omega) hc (by have e : (⟨#[44]⟩ : ByteArray).data.toList = [44] := rfl; rw [e]; omega)
def FPRel (w : World) (l : List Pt) (k : Nat) (v : Value) (wr : World) : Prop := Own encS 1 9 w.heap.size wr v ((l.take k).map ptrT) ∧ Below w.heap.size w wr
set_option maxHeartbeats 4000000 in
theorem fanPut_any (w : World) (A : Option Addr) (cap : Nat) (l : List Pt) (hT : TenAt w) (h : RdT encP 5 w A l) (hc : l.length ≤ cap) (hm : cap ≤ 9223372036854775807) (hn : l.length ≤ 4) (hall : ∀ p ∈ l, ptrB p = true) :
    Calls Tryz.prog 95 #[.slice A l.length cap] w fun e w' => e = .returned (.tuple #[.string (if (l.length == 4 && someB l) = true then fanT l else ⟨#[]⟩), .bool (l.length == 4 && someB l)]) ∧ Below w.heap.size w w' := by
  have HR := Lib.hid h
  have HT := Lib.hid hT
  have HA := Lib.hid hall
  have HCF := Lib.hid (contH_any w A cap l h hc hm (by omega))
  clear h hT hall
  by_cases h4 : l.length = 4
  · have e4 : (l.length == 4) = true := by simp [h4]
    rw [e4, Bool.true_and]
    have HL := Lib.hid h4
    have HLJ := Lib.hid (fanL_len HA.out)
    rw [h4] at hc HLJ HCF
    rw [h4]
    clear h4 e4 hn
    change Hid (Calls Tryz.prog 85 #[.slice A 4 cap, .func (.func 103) #[] #[]] w fun e w' => e = .returned (.bool (someB l)) ∧ Below w.heap.size w w') at HCF
    cases hs : someB l
    · rw [hs] at HCF
      clear hs
      go_enter Tryz.func95, Tryz.ntmps95
      go_wp2_with fail
      refine Calls.mono HCF.out ?_
      rintro e w1 ⟨rfl, hB⟩
      have HB := Lib.hid hB
      clear hB
      go_wp2_with fail
      go_ret2
      exact ⟨rfl, HB.out⟩
    · rw [hs] at HCF
      clear hs
      go_enter Tryz.func95, Tryz.ntmps95
      go_wp2_with fail
      refine Calls.mono HCF.out ?_
      rintro e w1 ⟨rfl, hB⟩
      have HB := Lib.hid hB
      clear hB HCF
      go_wp2_with fail
      go_loopw [4, 17] (fun v y wr => ∃ k : Nat, k ≤ 4 ∧ y = .int .i64 k ∧ Hid (FPRel w1 l k v wr)) (fun v y _ => 4 - (intOf y).toNat)
      case atStart => exact ⟨0, Nat.zero_le _, rfl, Lib.hid ⟨Own.nil, Below.refl _ _⟩⟩
      case round =>
        obtain ⟨k, hk4, rfl, HG⟩ := hrel
        have HO := Lib.hid HG.out.1
        have HB1 := Lib.hid HG.out.2
        have HBw := Lib.hid (below_below HB.out HB1.out)
        clear HG
        by_cases hlt : k < 4
        · obtain ⟨b, off, p, rfl, hb, he, c0, c1, c2, c3, c4⟩ := (HR.out.below HBw.out).ptr (k := k) (by rw [HL.out]; exact hlt)
          have hp := HA.out p (List.mem_of_getElem? he)
          have HPO := Lib.hid (fun W => ptrOk_any p W)
          have HPP := Lib.hid (fun W (hB : Below w.heap.size w W) => ptrPut_any W p (HT.out.below hB))
          rw [hp] at HPO
          have k2 : IntKind.i64.wrap ((k : Int) + 1) = (k : Int) + 1 := IntWalk.i64_in _ (by omega)
          have hlk : ((l.take k).map ptrT).length = k := by have := HL.out; simp; omega
          have K1 := Lib.hid (And.intro (show (((l.take k).map ptrT).length + 1) * 16 ≤ 140737488355328 by omega) (show ((l.take k).map ptrT).length + 1 ≤ maxLen by unfold maxLen; omega))
          have HZ := Lib.hid (show (l.take k).map ptrT ++ [ptrT p] = (l.take (k + 1)).map ptrT by rw [List.take_add_one, he]; simp)
          generalize ptrT p = PT at *
          obtain ⟨pa, pb, ps, pu, pl⟩ := p
          unfold Pt.v at HPO HPP
          dsimp only at HPO HPP c0 c1 c2 c3 c4
          have BX := Lib.hid (box_new wr #[.int .i64 pa, .int .i64 pb, .int .i64 ps, .int .i64 pu, .int .i64 pl] 40)
          have HB2 := Lib.hid (below_alloc HBw.out (.cells #[.int .i64 pa, .int .i64 pb, .int .i64 ps, .int .i64 pu, .int .i64 pl] 40))
          have HB12 := Lib.hid (below_alloc HB1.out (.cells #[.int .i64 pa, .int .i64 pb, .int .i64 ps, .int .i64 pu, .int .i64 pl] 40))
          have HO2 := Lib.hid (own_allocS HO.out (.cells #[.int .i64 pa, .int .i64 pb, .int .i64 ps, .int .i64 pu, .int .i64 pl] 40))
          clear hlk hp he HA HL HR HLJ HO
          go_wp2_with fail
          refine Calls.mono (HPO.out _) ?_
          rintro e w5 ⟨rfl, hB⟩
          have BX5 := Lib.hid (BX.out.below hB)
          have HB5 := Lib.hid (below_below HB2.out hB)
          have HB15 := Lib.hid (below_below HB12.out hB)
          have HO5 := Lib.hid (HO2.out.below hB)
          have bx5 := BX5.out.cell
          have hl5 := BX5.out.lt
          clear hB c0 c1 c2 c3 c4 BX HB2 HB12 HO2 HPO
          go_wp2_with fail
          refine Calls.mono (HPP.out _ HB5.out) ?_
          rintro e w6 ⟨rfl, hB⟩
          have HB16 := Lib.hid (below_below HB15.out hB)
          have HO6 := Lib.hid (HO5.out.below hB)
          clear hB bx5 hl5 BX5 HB5 HB15 HO5 HPP
          go_wp2_with (at_builtin; refine wpList_app (ys := ([PT] : List ByteArray)) elS rfl _ _ rfl (by rfl) (own_allocS HO6.out _) (by rfl) rfl (rd_oneS _ _) oneS K1.out.1 K1.out.2 (below_alloc HB16.out _).size ?_; intro v1 w4 ownv1 grv1 atv1)
          refine ⟨⟨k + 1, by omega, rfl, Lib.hid ⟨by rw [← HZ.out]; exact ownv1, below_grown (below_alloc HB16.out _) (own_allocS HO6.out _) grv1⟩⟩, by simp [intOf]; omega⟩
        · obtain rfl : k = 4 := by omega
          have ho := HO.out
          rw [List.take_of_length_le (by have := HL.out; omega)] at ho
          have hxl : (l.map ptrT).length = 4 := by rw [List.length_map]; exact HL.out
          obtain ⟨A4, c4, rfl, q1, q2, q3, hr⟩ := ho.form
          have HJ := Lib.hid (show Calls Tryz.prog 104 #[.slice A4 (l.map ptrT).length c4, .string ⟨#[44]⟩] wr fun e w' => e = .returned (.string (fanT l)) ∧ Below wr.heap.size wr w' from joinComma_any wr A4 c4 (l.map ptrT) hr (by omega) q1 (by have := HLJ.out; omega) (by omega))
          rw [hxl] at HJ
          rw [hxl]
          clear ho HO q3 hr hxl HLJ HA HL HR q1
          go_wp2_with fail
          refine Calls.mono HJ.out ?_
          rintro e w5 ⟨rfl, hB1⟩
          have HB5 := Lib.hid (below_below HBw.out hB1)
          clear hB1
          go_wp2_with fail
          go_ret2
          exact ⟨rfl, HB5.out⟩
  · have e4 : (l.length == 4) = false := by simp [h4]
    have e5 : ((l.length : Int) != 4) = true := by simp; omega
    rw [e4, Bool.false_and]
    clear e4 HCF HA HR h4
    generalize l.length = n at *
    go_enter Tryz.func95, Tryz.ntmps95
    go_wp2_with fail
    go_ret2
    exact ⟨rfl, Below.refl _ _⟩
theorem splitComma_any (w : World) (s : ByteArray) (hM : MaxAt w) (hs : s.size ≤ 1048576) : Calls Tryz.prog 93 #[.string s, .string ⟨#[44]⟩] w (SPost w (cutB 44 s)) := by
  obtain ⟨m, hm⟩ := hM
  have HS := Tryz.strings_Split s ⟨#[44]⟩ m w (by omega) hm (by decide)
  have hcnt : Lib.countB s ⟨#[44]⟩ + 1 = (cutB 44 s).length := by
    rw [← splitB_cut, Lib.splitB_all _ (by decide) 0 _ _ rfl]
  rw [splitB_cut, hcnt] at HS
  have hl := (cutB_len 44 s).1
  refine HS.mono ?_
  rintro e w' ⟨rfl, rfl⟩
  exact ⟨_, rfl, own_split (base := w.heap.size) (cutB 44 s) (Nat.le_refl _) (by unfold maxLen; omega), (Below.refl _ _).alloc (Nat.le_refl _) _⟩
def FGRel (w2 : World) (xs : List ByteArray) (k : Nat) (l : List Pt) (v : Value) (wr : World) : Prop :=
  Own encP 5 40 w2.heap.size wr v l ∧ Below w2.heap.size w2 wr ∧ FanAt xs k l
set_option maxHeartbeats 4000000 in
theorem specFanGet_any (w : World) (s : ByteArray) (hs : s.size ≤ 1048576) : Calls Tryz.prog 82 #[.string s] w (GetF w s) := by
  have HS := Lib.hid (fun W => (show Calls Tryz.prog 91 #[.string s, .int .u8 44] W (SPost W (cutB 44 s)) from l2Cut_any W s 44 hs))
  have HX := Lib.hid (cutB_len 44 s)
  have GB := Lib.hid (fun k t p (ht : (cutB 44 s)[k]? = some t) hp => fanG_bad (s := s) (k := k) (t := t) (p := p) ht hp)
  have GL := Lib.hid (fun h => fanG_len (s := s) h)
  have GH := Lib.hid (fun l h hh => fanG_holes (s := s) (l := l) h hh)
  have GY := Lib.hid (fun l h h4 hh => fanG_yes (s := s) (l := l) h h4 hh)
  generalize cutB 44 s = xs at *
  go_enter Tryz.func82, Tryz.ntmps82
  go_wp2_with fail
  refine Calls.mono (HS.out _) ?_
  rintro e w2 ⟨v2, rfl, own2, hB⟩
  obtain ⟨A, c, rfl, hc, hcm, hA, hrd⟩ := own2.form
  have R2 := Lib.hid hrd
  have HB2 := Lib.hid hB
  clear hA hrd own2 hB HS
  go_wp2_with fail
  go_loopw [5, 6, 7] (fun v b y wr => ∃ (k : Nat) (l : List Pt) (sb : Bool), k ≤ xs.length ∧ y = .int .i64 k ∧ b = .bool sb ∧ Hid (sb = someB l) ∧ Hid (FGRel w2 xs k l v wr)) (fun v b y _ => xs.length - (intOf y).toNat)
  case atStart => exact ⟨0, [], false, Nat.zero_le _, rfl, rfl, Lib.hid rfl, Lib.hid ⟨Own.empty (Nat.le_refl _), (Below.refl _ _).alloc (Nat.le_refl _) _, fanAt_nil xs⟩⟩
  case round =>
    obtain ⟨k, l, sb, hk, rfl, rfl, HSB, HG⟩ := hrel
    have HO := Lib.hid HG.out.1
    have HB12 := Lib.hid HG.out.2.1
    have HF := Lib.hid HG.out.2.2
    have HBw := Lib.hid (below_below HB2.out HB12.out)
    clear HG
    by_cases hlt : k < xs.length
    · obtain ⟨b, off, t, rfl, hb, ht, ct⟩ := (R2.out.below HB12.out).strs (k := k) hlt
      have HP := Lib.hid (specPtrGet_any wr t (by have := HX.out.2 t (List.mem_of_getElem? ht); omega))
      have HTT := Lib.hid ht
      have k2 : IntKind.i64.wrap ((k : Int) + 1) = (k : Int) + 1 := IntWalk.i64_in _ (by have := HX.out.1; omega)
      have hll := HF.out.1
      have K1 := Lib.hid (And.intro (show (l.length + 1) * 40 ≤ 140737488355328 by have := HX.out.1; omega) (show l.length + 1 ≤ maxLen by unfold maxLen; have := HX.out.1; omega))
      clear ht hll
      generalize xs.length = n at *
      go_wp2_with fail
      refine Calls.mono HP.out ?_
      rintro e w5 ⟨p, bp, rfl, hG, hB⟩
      have HPG := Lib.hid hG
      have HB15 := Lib.hid (below_below HB12.out hB)
      have HB5 := Lib.hid (below_below HBw.out hB)
      have HO5 := Lib.hid (HO.out.below hB)
      clear hG hB HP ct HO HB12 HBw
      cases bp
      · have HE := Lib.hid (GB.out k t p HTT.out HPG.out)
        obtain ⟨pa, pb, ps, pu, pl⟩ := p
        unfold Pt.v
        dsimp only
        clear HPG
        go_wp2_with fail
        go_ret2
        exact ⟨_, [], false, rfl, HE.out, own_emptyAt (by simp) (by have := HB5.out.size; simp; omega), below_alloc (below_alloc HB5.out _) _⟩
      · have HFN := Lib.hid (fanAt_next HF.out HTT.out HPG.out)
        have HPH := Lib.hid (fun W => specPtrHole_any p W)
        have HSN := Lib.hid (someB_snoc l p)
        generalize hpp : p = p' at HFN HSN
        obtain ⟨pa, pb, ps, pu, pl⟩ := p
        unfold Pt.v at HPH ⊢
        dsimp only at HPH ⊢
        have BX5 := Lib.hid (box_new w5 #[.int .i64 pa, .int .i64 pb, .int .i64 ps, .int .i64 pu, .int .i64 pl] 40)
        have HB16 := Lib.hid (below_alloc HB15.out (.cells #[.int .i64 pa, .int .i64 pb, .int .i64 ps, .int .i64 pu, .int .i64 pl] 40))
        have HO6 := Lib.hid (own_allocPF HO5.out (.cells #[.int .i64 pa, .int .i64 pb, .int .i64 ps, .int .i64 pu, .int .i64 pl] 40))
        subst hpp
        clear HPG HTT
        cases sb
        · generalize holeB ⟨pa, pb, ps, pu, pl⟩ = hb2 at *
          go_wp2_with fail
          refine Calls.mono (HPH.out _) ?_
          rintro e w6 ⟨rfl, hB⟩
          have BX7 := Lib.hid (BX5.out.below hB)
          have HB17 := Lib.hid (below_below HB16.out hB)
          have HO7 := Lib.hid (HO6.out.below hB)
          have bx7 := BX7.out.cell
          have hl7 := BX7.out.lt
          clear hB BX5 HB16 HO6 HPH
          go_wp2_with (at_builtin; refine wpList_app (ys := ([⟨pa, pb, ps, pu, pl⟩] : List Pt)) elP rfl _ _ rfl (by rfl) (own_allocPF HO7.out _) (by rfl) rfl (rd_onePF _ _ _ _ _ _) oneP K1.out.1 K1.out.2 (below_alloc HB17.out _).size ?_; intro v1 w4 ownv1 grv1 atv1)
          refine ⟨⟨k + 1, l ++ [⟨pa, pb, ps, pu, pl⟩], !hb2, by omega, by go_num, rfl, Lib.hid (by rw [HSN.out, ← HSB.out]; rfl), Lib.hid ⟨ownv1, below_grown (below_alloc HB17.out _) (own_allocPF HO7.out _) grv1, HFN.out⟩⟩, by simp [intOf]; omega⟩
        · have bx5 := BX5.out.cell
          have hl5 := BX5.out.lt
          generalize holeB ⟨pa, pb, ps, pu, pl⟩ = hb2 at *
          go_wp2_with (at_builtin; refine wpList_app (ys := ([⟨pa, pb, ps, pu, pl⟩] : List Pt)) elP rfl _ _ rfl (by rfl) (own_allocPF HO6.out _) (by rfl) rfl (rd_onePAt (by simp)) oneP K1.out.1 K1.out.2 (below_alloc HB16.out _).size ?_; intro v1 w4 ownv1 grv1 atv1)
          refine ⟨⟨k + 1, l ++ [⟨pa, pb, ps, pu, pl⟩], true, by omega, by go_num, rfl, Lib.hid (by rw [HSN.out, ← HSB.out]; rfl), Lib.hid ⟨ownv1, below_grown (below_alloc HB16.out _) (own_allocPF HO6.out _) grv1, HFN.out⟩⟩, by simp [intOf]; omega⟩
    · obtain rfl : k = xs.length := by omega
      have hll := HF.out.1
      obtain ⟨A4, c4, rfl, q1, q2, q3, hr⟩ := HO.out.form
      by_cases h4 : l.length = 4
      · cases sb
        · have HE := Lib.hid (GH.out l HF.out (someB_no HSB.out.symm))
          rw [h4]
          clear h4 hll hr q3 q1 HF HX
          generalize xs.length = n at *
          go_wp2_with fail
          go_ret2
          exact ⟨_, [], false, rfl, HE.out, Own.empty (by have := HBw.out.size; omega), below_alloc HBw.out _⟩
        · have HE := Lib.hid (GY.out l HF.out h4 (someB_yes HSB.out.symm))
          have HO9 := Lib.hid HO.out
          rw [h4] at HO9
          rw [h4]
          clear h4 hll hr q3 q1 HF HX
          generalize xs.length = n at *
          go_wp2_with fail
          go_ret2
          exact ⟨_, l, true, rfl, HE.out, own_lowerF HO9.out HB2.out.size, HBw.out⟩
      · have HE := Lib.hid (GL.out (by rw [← hll]; exact h4))
        have e5 : ((l.length : Int) != 4) = true := by simp; omega
        clear h4 hll hr q3 q1 HF HX HO
        generalize l.length = n' at *
        generalize xs.length = n at *
        go_wp2_with fail
        go_ret2
        exact ⟨_, [], false, rfl, HE.out, Own.empty (by have := HBw.out.size; omega), below_alloc HBw.out _⟩

end Go.Proofs.YtafadedacbjioaaGreatDoor

/- Checksums; a pointer held against a text: both texts. -/
namespace Go.Proofs.YtafadedacbjioaaGreatDoor
open Go.RowKit Go.Sort
set_option maxRecDepth 100000
set_option linter.unusedVariables false
set_option linter.unusedSimpArgs false

def sumGo : List UInt8 → Int → Int → Int × Int
  | [], a, b => (a, b)
  | c :: r, a, b => sumGo r ((a + (c.toNat : Int) + 1) % 9973) (((a + (c.toNat : Int) + 1) % 9973 + b) % 9973)
def sumL (l : List UInt8) : Int := (sumGo l 1 0).1 * 9973 + (sumGo l 1 0).2
theorem sum_step (s : ByteArray) (k : Nat) (h : k < s.size) (a b : Int) : sumGo (s.data.toList.drop k) a b = sumGo (s.data.toList.drop (k + 1)) ((a + ((s[k]).toNat : Int) + 1) % 9973) (((a + ((s[k]).toNat : Int) + 1) % 9973 + b) % 9973) := by
  have h' : k < s.data.toList.length := by rw [Array.length_toList]; exact h
  rw [List.drop_eq_getElem_cons h', sumGo]
  rfl
theorem sum_end (s : ByteArray) {a b : Int} (h : sumGo s.data.toList 1 0 = sumGo (s.data.toList.drop s.size) a b) : sumL s.data.toList = a * 9973 + b := by
  have e : s.data.toList.drop s.size = [] := List.drop_of_length_le (by rw [Array.length_toList]; exact Nat.le_refl _)
  rw [e] at h
  simp [sumL, h, sumGo]
theorem mod_in (x : Int) : 0 ≤ x % 9973 ∧ x % 9973 < 9973 := ⟨Int.emod_nonneg _ (by omega), Int.emod_lt_of_pos _ (by omega)⟩

set_option maxHeartbeats 1000000 in
theorem sumOf_any (s : ByteArray) (w : World) (hs : s.size ≤ 9223372036854775807) : Calls Tryz.prog 89 #[.string s] w fun e w' => e = .returned (.int .i64 (sumL s.data.toList)) ∧ w = w' := by
  have HE := Lib.hid (fun a b h => sum_end s (a := a) (b := b) h)
  generalize sumL s.data.toList = r at *
  go_enter Tryz.func89, Tryz.ntmps89
  go_wp2_with fail
  go_loop [3, 4, 8] (fun x y i => ∃ (k : Nat) (a b : Int), k ≤ s.size ∧ i = .int .i64 k ∧ x = .int .i64 a ∧ y = .int .i64 b ∧ 0 ≤ a ∧ a < 9973 ∧ 0 ≤ b ∧ b < 9973 ∧ Hid (sumGo s.data.toList 1 0 = sumGo (s.data.toList.drop k) a b)) (fun _ _ i => s.size - (intOf i).toNat)
  case atStart => exact ⟨0, 1, 0, Nat.zero_le _, rfl, rfl, rfl, by omega, by omega, by omega, by omega, Lib.hid (by simp)⟩
  case round =>
    obtain ⟨k, a, b, hk, rfl, rfl, rfl, ha0, ha1, hb0, hb1, HS⟩ := hrel
    by_cases hlt : k < s.size
    · have HS2 := Lib.hid (HS.out.trans (sum_step s k hlt a b))
      have hby : (s[k]).toNat < 256 := (s[k]).toNat_lt
      have hm1 := mod_in (a + ((s[k]).toNat : Int) + 1)
      have hm2 := mod_in ((a + ((s[k]).toNat : Int) + 1) % 9973 + b)
      obtain ⟨m10, m11⟩ := hm1
      obtain ⟨m20, m21⟩ := hm2
      clear HS
      go_wp2_with fail
      exact ⟨⟨k + 1, _, _, by omega, by go_num, rfl, rfl, m10, m11, m20, m21, HS2⟩, by simp [intOf]; omega⟩
    · obtain rfl : k = s.size := by omega
      have HR := Lib.hid (HE.out a b HS.out)
      clear HS HE
      go_wp2_with fail
      go_ret
      exact ⟨ret_int HR.out.symm, rfl⟩

set_option maxHeartbeats 1000000 in
theorem specSumOf_any (s : ByteArray) (w : World) (hs : s.size ≤ 9223372036854775807) : Calls Tryz.prog 97 #[.string s] w fun e w' => e = .returned (.int .i64 (sumL s.data.toList)) ∧ w = w' := by
  have HE := Lib.hid (fun a b h => sum_end s (a := a) (b := b) h)
  generalize sumL s.data.toList = r at *
  go_enter Tryz.func97, Tryz.ntmps97
  go_wp2_with fail
  go_loop [3, 4, 5] (fun x y i => ∃ (k : Nat) (a b : Int), k ≤ s.size ∧ i = .int .i64 k ∧ x = .int .i64 a ∧ y = .int .i64 b ∧ 0 ≤ a ∧ a < 9973 ∧ 0 ≤ b ∧ b < 9973 ∧ Hid (sumGo s.data.toList 1 0 = sumGo (s.data.toList.drop k) a b)) (fun _ _ i => s.size - (intOf i).toNat)
  case atStart => exact ⟨0, 1, 0, Nat.zero_le _, rfl, rfl, rfl, by omega, by omega, by omega, by omega, Lib.hid (by simp)⟩
  case round =>
    obtain ⟨k, a, b, hk, rfl, rfl, rfl, ha0, ha1, hb0, hb1, HS⟩ := hrel
    by_cases hlt : k < s.size
    · have HS2 := Lib.hid (HS.out.trans (sum_step s k hlt a b))
      have hby : (s[k]).toNat < 256 := (s[k]).toNat_lt
      have hm1 := mod_in (a + ((s[k]).toNat : Int) + 1)
      have hm2 := mod_in ((a + ((s[k]).toNat : Int) + 1) % 9973 + b)
      obtain ⟨m10, m11⟩ := hm1
      obtain ⟨m20, m21⟩ := hm2
      clear HS
      go_wp2_with fail
      exact ⟨⟨k + 1, _, _, by omega, by go_num, rfl, by rw [Int.add_comm b], m10, m11, m20, m21, HS2⟩, by simp [intOf]; omega⟩
    · obtain rfl : k = s.size := by omega
      have HR := Lib.hid (HE.out a b HS.out)
      clear HS HE
      go_wp2_with fail
      go_ret
      exact ⟨ret_int HR.out.symm, rfl⟩

/-- A pointer leads to a text. -/
def fitsB (p : Pt) (s : ByteArray) : Bool := ptrB p && (!holeB p && (p.size == (s.size : Int) && p.sum == sumL s.data.toList))

set_option maxHeartbeats 2000000 in
theorem ptrFits_any (p : Pt) (s : ByteArray) (w : World) (hs : s.size ≤ 9223372036854775807) : Calls Tryz.prog 78 #[p.v, .string s] w fun e w' => e = .returned (.bool (fitsB p s)) ∧ Below w.heap.size w w' := by
  have HP := Lib.hid (ptrOk_any p)
  have HH := Lib.hid (ptrHole_any p)
  have HS := Lib.hid (fun w => sumOf_any s w hs)
  unfold fitsB
  obtain ⟨pa, pb, ps, pu, pl⟩ := p
  unfold Pt.v at *
  dsimp only at *
  generalize sumL s.data.toList = r at *
  cases h1 : ptrB ⟨pa, pb, ps, pu, pl⟩
  · rw [h1] at HP
    clear h1
    go_enter Tryz.func78, Tryz.ntmps78
    go_wp2_with fail
    refine wp_quiet_b (by kernel_rfl) (by kernel_rfl) (fun hgrow => ?_)
    repeat (go_big_quiet_step ((go_at_call 69; exact quiet_b (HP.out _))))
    refine wpQuiet_nil ?_
    intro w2 hww2
    replace hww2 := below_of_regrown hww2
    clear hgrow
    go_wp2_with fail
    go_ret
    exact ⟨rfl, by have := hww2; (repeat (first | assumption | exact Below.refl _ _ | refine below_alloc ?_ _ | refine Below.drew ?_ | refine below_drewN ?_ _ | refine below_set ?_ (by first | exact Nat.le_refl _ | omega | (simp; done) | (simp; omega)) _ | refine below_kp ?_ (by assumption) (by simp) | refine below_below ?_ (by assumption)))⟩
  · rw [h1] at HP
    clear h1
    cases h2 : holeB ⟨pa, pb, ps, pu, pl⟩
    · rw [h2] at HH
      clear h2
      by_cases h3 : ps = (s.size : Int)
      · by_cases h4 : pu = r
        · have e3 : (ps == (s.size : Int)) = true := by simpa using h3
          have e4 : (pu == r) = true := by simpa using h4
          rw [e3, e4]
          clear h3 h4
          go_enter Tryz.func78, Tryz.ntmps78
          go_wp2_with fail
          refine wp_quiet_b (by kernel_rfl) (by kernel_rfl) (fun hgrow => ?_)
          repeat (go_big_quiet_step ((first | (go_at_call 69; exact quiet_b (HP.out _)) | (go_at_call 59; exact quiet_b (HH.out _)) | (go_at_call 89; exact quiet_s (HS.out _)))))
          refine wpQuiet_nil ?_
          intro w2 hww2
          replace hww2 := below_of_regrown hww2
          clear hgrow
          go_wp2_with fail
          go_ret
          exact ⟨rfl, by have := hww2; (repeat (first | assumption | exact Below.refl _ _ | refine below_alloc ?_ _ | refine Below.drew ?_ | refine below_drewN ?_ _ | refine below_set ?_ (by first | exact Nat.le_refl _ | omega | (simp; done) | (simp; omega)) _ | refine below_kp ?_ (by assumption) (by simp) | refine below_below ?_ (by assumption)))⟩
        · have e3 : (ps == (s.size : Int)) = true := by simpa using h3
          have e4 : (pu == r) = false := by simpa using h4
          rw [e3, e4]
          clear h3 h4
          go_enter Tryz.func78, Tryz.ntmps78
          go_wp2_with fail
          refine wp_quiet_b (by kernel_rfl) (by kernel_rfl) (fun hgrow => ?_)
          repeat (go_big_quiet_step ((first | (go_at_call 69; exact quiet_b (HP.out _)) | (go_at_call 59; exact quiet_b (HH.out _)) | (go_at_call 89; exact quiet_s (HS.out _)))))
          refine wpQuiet_nil ?_
          intro w2 hww2
          replace hww2 := below_of_regrown hww2
          clear hgrow
          go_wp2_with fail
          go_ret
          exact ⟨rfl, by have := hww2; (repeat (first | assumption | exact Below.refl _ _ | refine below_alloc ?_ _ | refine Below.drew ?_ | refine below_drewN ?_ _ | refine below_set ?_ (by first | exact Nat.le_refl _ | omega | (simp; done) | (simp; omega)) _ | refine below_kp ?_ (by assumption) (by simp) | refine below_below ?_ (by assumption)))⟩
      · have e3 : (ps == (s.size : Int)) = false := by simpa using h3
        rw [e3]
        clear h3
        go_enter Tryz.func78, Tryz.ntmps78
        go_wp2_with fail
        refine wp_quiet_b (by kernel_rfl) (by kernel_rfl) (fun hgrow => ?_)
        repeat (go_big_quiet_step ((first | (go_at_call 69; exact quiet_b (HP.out _)) | (go_at_call 59; exact quiet_b (HH.out _)) | (go_at_call 89; exact quiet_s (HS.out _)))))
        refine wpQuiet_nil ?_
        intro w2 hww2
        replace hww2 := below_of_regrown hww2
        clear hgrow
        go_wp2_with fail
        go_ret
        exact ⟨rfl, by have := hww2; (repeat (first | assumption | exact Below.refl _ _ | refine below_alloc ?_ _ | refine Below.drew ?_ | refine below_drewN ?_ _ | refine below_set ?_ (by first | exact Nat.le_refl _ | omega | (simp; done) | (simp; omega)) _ | refine below_kp ?_ (by assumption) (by simp) | refine below_below ?_ (by assumption)))⟩
    · rw [h2] at HH
      clear h2
      go_enter Tryz.func78, Tryz.ntmps78
      go_wp2_with fail
      refine wp_quiet_b (by kernel_rfl) (by kernel_rfl) (fun hgrow => ?_)
      repeat (go_big_quiet_step ((first | (go_at_call 69; exact quiet_b (HP.out _)) | (go_at_call 59; exact quiet_b (HH.out _)))))
      refine wpQuiet_nil ?_
      intro w2 hww2
      replace hww2 := below_of_regrown hww2
      clear hgrow
      go_wp2_with fail
      go_ret
      exact ⟨rfl, by have := hww2; (repeat (first | assumption | exact Below.refl _ _ | refine below_alloc ?_ _ | refine Below.drew ?_ | refine below_drewN ?_ _ | refine below_set ?_ (by first | exact Nat.le_refl _ | omega | (simp; done) | (simp; omega)) _ | refine below_kp ?_ (by assumption) (by simp) | refine below_below ?_ (by assumption)))⟩

set_option maxHeartbeats 2000000 in
theorem specPtrFits_any (p : Pt) (s : ByteArray) (w : World) (hs : s.size ≤ 9223372036854775807) : Calls Tryz.prog 88 #[p.v, .string s] w fun e w' => e = .returned (.bool (fitsB p s)) ∧ Below w.heap.size w w' := by
  have HP := Lib.hid (specPtrOk_any p)
  have HH := Lib.hid (specPtrHole_any p)
  have HS := Lib.hid (fun w => specSumOf_any s w hs)
  unfold fitsB
  obtain ⟨pa, pb, ps, pu, pl⟩ := p
  unfold Pt.v at *
  dsimp only at *
  generalize sumL s.data.toList = r at *
  cases h1 : ptrB ⟨pa, pb, ps, pu, pl⟩
  · rw [h1] at HP
    clear h1
    go_enter Tryz.func88, Tryz.ntmps88
    go_wp2_with fail
    refine wp_quiet_b (by kernel_rfl) (by kernel_rfl) (fun hgrow => ?_)
    repeat (go_big_quiet_step ((go_at_call 74; exact quiet_b (HP.out _))))
    refine wpQuiet_nil ?_
    intro w2 hww2
    replace hww2 := below_of_regrown hww2
    clear hgrow
    go_wp2_with fail
    go_ret
    exact ⟨rfl, by have := hww2; (repeat (first | assumption | exact Below.refl _ _ | refine below_alloc ?_ _ | refine Below.drew ?_ | refine below_drewN ?_ _ | refine below_set ?_ (by first | exact Nat.le_refl _ | omega | (simp; done) | (simp; omega)) _ | refine below_kp ?_ (by assumption) (by simp) | refine below_below ?_ (by assumption)))⟩
  · rw [h1] at HP
    clear h1
    cases h2 : holeB ⟨pa, pb, ps, pu, pl⟩
    · rw [h2] at HH
      clear h2
      by_cases h3 : ps = (s.size : Int)
      · by_cases h4 : pu = r
        · have e3 : (ps == (s.size : Int)) = true := by simpa using h3
          have e4 : (pu == r) = true := by simpa using h4
          rw [e3, e4]
          clear h3 h4
          go_enter Tryz.func88, Tryz.ntmps88
          go_wp2_with fail
          refine wp_quiet_b (by kernel_rfl) (by kernel_rfl) (fun hgrow => ?_)
          repeat (go_big_quiet_step ((first | (go_at_call 74; exact quiet_b (HP.out _)) | (go_at_call 58; exact quiet_b (HH.out _)) | (go_at_call 97; exact quiet_s (HS.out _)))))
          refine wpQuiet_nil ?_
          intro w2 hww2
          replace hww2 := below_of_regrown hww2
          clear hgrow
          go_wp2_with fail
          go_ret
          exact ⟨rfl, by have := hww2; (repeat (first | assumption | exact Below.refl _ _ | refine below_alloc ?_ _ | refine Below.drew ?_ | refine below_drewN ?_ _ | refine below_set ?_ (by first | exact Nat.le_refl _ | omega | (simp; done) | (simp; omega)) _ | refine below_kp ?_ (by assumption) (by simp) | refine below_below ?_ (by assumption)))⟩
        · have e3 : (ps == (s.size : Int)) = true := by simpa using h3
          have e4 : (pu == r) = false := by simpa using h4
          rw [e3, e4]
          clear h3 h4
          go_enter Tryz.func88, Tryz.ntmps88
          go_wp2_with fail
          refine wp_quiet_b (by kernel_rfl) (by kernel_rfl) (fun hgrow => ?_)
          repeat (go_big_quiet_step ((first | (go_at_call 74; exact quiet_b (HP.out _)) | (go_at_call 58; exact quiet_b (HH.out _)) | (go_at_call 97; exact quiet_s (HS.out _)))))
          refine wpQuiet_nil ?_
          intro w2 hww2
          replace hww2 := below_of_regrown hww2
          clear hgrow
          go_wp2_with fail
          go_ret
          exact ⟨rfl, by have := hww2; (repeat (first | assumption | exact Below.refl _ _ | refine below_alloc ?_ _ | refine Below.drew ?_ | refine below_drewN ?_ _ | refine below_set ?_ (by first | exact Nat.le_refl _ | omega | (simp; done) | (simp; omega)) _ | refine below_kp ?_ (by assumption) (by simp) | refine below_below ?_ (by assumption)))⟩
      · have e3 : (ps == (s.size : Int)) = false := by simpa using h3
        rw [e3]
        clear h3
        go_enter Tryz.func88, Tryz.ntmps88
        go_wp2_with fail
        refine wp_quiet_b (by kernel_rfl) (by kernel_rfl) (fun hgrow => ?_)
        repeat (go_big_quiet_step ((first | (go_at_call 74; exact quiet_b (HP.out _)) | (go_at_call 58; exact quiet_b (HH.out _)) | (go_at_call 97; exact quiet_s (HS.out _)))))
        refine wpQuiet_nil ?_
        intro w2 hww2
        replace hww2 := below_of_regrown hww2
        clear hgrow
        go_wp2_with fail
        go_ret
        exact ⟨rfl, by have := hww2; (repeat (first | assumption | exact Below.refl _ _ | refine below_alloc ?_ _ | refine Below.drew ?_ | refine below_drewN ?_ _ | refine below_set ?_ (by first | exact Nat.le_refl _ | omega | (simp; done) | (simp; omega)) _ | refine below_kp ?_ (by assumption) (by simp) | refine below_below ?_ (by assumption)))⟩
    · rw [h2] at HH
      clear h2
      go_enter Tryz.func88, Tryz.ntmps88
      go_wp2_with fail
      refine wp_quiet_b (by kernel_rfl) (by kernel_rfl) (fun hgrow => ?_)
      repeat (go_big_quiet_step ((first | (go_at_call 74; exact quiet_b (HP.out _)) | (go_at_call 58; exact quiet_b (HH.out _)))))
      refine wpQuiet_nil ?_
      intro w2 hww2
      replace hww2 := below_of_regrown hww2
      clear hgrow
      go_wp2_with fail
      go_ret
      exact ⟨rfl, by have := hww2; (repeat (first | assumption | exact Below.refl _ _ | refine below_alloc ?_ _ | refine Below.drew ?_ | refine below_drewN ?_ _ | refine below_set ?_ (by first | exact Nat.le_refl _ | omega | (simp; done) | (simp; omega)) _ | refine below_kp ?_ (by assumption) (by simp) | refine below_below ?_ (by assumption)))⟩

end Go.Proofs.YtafadedacbjioaaGreatDoor

/- Marking a list of texts, and whether the marks are still there. -/
namespace Go.Proofs.YtafadedacbjioaaGreatDoor
open Go.RowKit
set_option linter.unusedVariables false
set_option linter.unusedSimpArgs false

/-- The marks from k on. -/
def markT (k n : Nat) : List ByteArray := (List.range n).map fun i => markS (k + i)
theorem markT_length (k n : Nat) : (markT k n).length = n := by simp [markT]
theorem markT_get (k n i : Nat) (h : i < n) : (markT k n)[i]? = some (markS (k + i)) := by simp [markT, h]

/-- The block of a row of the call's own, as a list. -/
def exOf' (v : Value) : List Nat := match v.ownBlock with | some b => [b] | none => []

def MarkPostS (base k n : Nat) (w : World) (v : Value) (e : Ending) (w' : World) : Prop := e = .returned (.int .i64 ((k + n : Nat) : Int)) ∧ Own encS 1 9 base w' v (markT k n) ∧ Kp (exOf' v) w w'

theorem markT_mix (k n i : Nat) (es : List ByteArray) (hn : es.length = n) (hi : i < n) : ((markT k n).take i ++ es.drop i).set i (markS (k + i)) = (markT k n).take (i + 1) ++ es.drop (i + 1) := by
  apply List.ext_getElem?
  intro j
  have h1 : ((markT k n).take i).length = i := by rw [List.length_take, markT_length]; omega
  have h2 : ((markT k n).take (i + 1)).length = i + 1 := by rw [List.length_take, markT_length]; omega
  by_cases hj : j < i
  · rw [List.getElem?_set_ne (by omega), List.getElem?_append_left (by omega), List.getElem?_append_left (by omega), List.getElem?_take, List.getElem?_take, if_pos hj, if_pos (by omega)]
  · by_cases hj2 : j = i
    · subst hj2
      rw [List.getElem?_set_self (by simp [markT_length]; omega), List.getElem?_append_left (by omega), List.getElem?_take, if_pos (by omega), markT_get _ _ _ hi]
    · rw [List.getElem?_set_ne (by omega), List.getElem?_append_right (by omega), List.getElem?_append_right (by omega), h1, h2, List.getElem?_drop, List.getElem?_drop]
      congr 1
      omega

set_option maxHeartbeats 2000000 in
theorem markStringS_at (base : Nat) (w : World) (g cap k : Nat) (es : List ByteArray) (h : Own encS 1 9 base w (.slice (some ⟨g, 0, none⟩) es.length cap) es) (hn : es.length ≤ 1048576) (hk1 : 1 ≤ k) (hk2 : k ≤ 1048592) (hg : g < w.heap.size) :
    Calls Tryz.prog 49 #[.slice (some ⟨g, 0, none⟩) es.length cap, .int .i64 k] w (MarkPostS base k es.length w (.slice (some ⟨g, 0, none⟩) es.length cap)) := by
  have HO := Lib.hid (show w.ownsRow base 9 1 (.slice (some ⟨g, 0, none⟩) es.length cap) es.length (cellsOf encS 1 es) from h)
  obtain ⟨A, cap', hv, hcc, hcm, _, _⟩ := h.form
  cases hv
  clear h
  go_enter Tryz.func49, Tryz.ntmps49
  go_wp2_with fail
  go_loopw [1, 5] (fun x y wr => ∃ (i K : Nat), i ≤ es.length ∧ K = k + i ∧ x = .int .i64 K ∧ y = .int .i64 i ∧ Hid (wr.ownsRow base 9 1 (.slice (some ⟨g, 0, none⟩) es.length cap) es.length (cellsOf encS 1 ((markT k es.length).take i ++ es.drop i))) ∧ Hid (Kp [g] w wr)) (fun x y _ => es.length - (intOf y).toNat)
  case atStart => exact ⟨0, k, Nat.zero_le _, by omega, rfl, rfl, by simpa using HO, Lib.hid (Kp.refl _ _)⟩
  case round =>
    obtain ⟨i, K, hi, hK, rfl, rfl, HW, HB⟩ := hrel
    have HK := Lib.hid hK
    clear hK
    by_cases hlt : i < es.length
    · have HT := Lib.hid (fun w => markText_any K w (by have := HK.out; omega) (by have := HK.out; omega))
      go_wp2_with fail
      refine Calls.mono (HT.out _) ?_
      rintro e w2 ⟨rfl, hB2⟩
      have hO2 := ownsRow_below' HW.out hB2
      have hl : (cellsOf encS 1 ((markT k es.length).take i ++ es.drop i)).length = es.length * 1 := hO2.1
      obtain ⟨v0, hv0⟩ : ∃ v0, w2.cell? ⟨g, i, none⟩ = some v0 := ⟨_, (hO2.cellAt i (by omega)).trans (List.getElem?_eq_getElem (by omega))⟩
      have hf0 := hO2.frozenAt i
      have HO2 := Lib.hid hO2
      have HB2 := Lib.hid (HB.out.trans ((Kp.of_below hB2).all [g]))
      clear hO2 hl hB2
      have k1 : IntKind.i64.wrap ((K : Int) + 1) = (K : Int) + 1 := IntWalk.i64_in _ (by have := HK.out; omega)
      go_wp2_with fail
      go_roundw
      case rel =>
        refine ⟨i + 1, K + 1, by omega, by have := HK.out; omega, by go_num, by go_num, ?_, ?_⟩
        · have h1 := (HO2.out.stored i (.string (markS K))).1
          have e := cellsOf_set1 (enc := encS) ((markT k es.length).take i ++ es.drop i) i (markS K) (by simp [markT_length]; omega)
          have e2 := markT_mix k es.length i es rfl hlt
          rw [← HK.out] at e2
          rw [e2] at e
          rw [← e]
          exact h1
        · exact Lib.hid (HB2.out.setCell (.inl (by simp)) _)
      case measure => simp [intOf]; omega
    · obtain rfl : i = es.length := by omega
      have hKe := HK.out
      subst hKe
      have HX := Lib.hid (show Own encS 1 9 base wr (.slice (some ⟨g, 0, none⟩) es.length cap) (markT k es.length) by
        have := HW.out
        rw [List.take_of_length_le (by rw [markT_length]; exact Nat.le_refl _), List.drop_of_length_le (Nat.le_refl _), List.append_nil] at this
        unfold Own
        rw [markT_length]
        exact this)
      go_wp2_with fail
      go_ret
      exact ⟨rfl, HX.out, HB.out⟩

theorem own_above' {base : Nat} {w : World} {v : Value} {xs : List ByteArray} (h : Own encS 1 9 base w v xs) : ∀ k ∈ exOf' v, base ≤ k ∧ k < w.heap.size := by
  rcases h.2 with ⟨rfl, _⟩ | ⟨g, cap, cur, rfl, hg, hh, _⟩
  · intro k hk; simp [exOf', Value.ownBlock] at hk
  · intro k hk
    simp [exOf', Value.ownBlock] at hk
    subst hk
    refine ⟨hg, ?_⟩
    rcases Nat.lt_or_ge k w.heap.size with h' | h'
    · exact h'
    · rw [Array.getElem?_eq_none h'] at hh; cases hh
theorem mem_exOf' {v : Value} {k : Nat} (h : v.ownBlock = some k) : k ∈ exOf' v := by simp [exOf', h]
/-- Two rows of which the one was made when the other stood: apart. -/
theorem apart' {b1 b2 : Nat} {w1 w2 : World} {v1 v2 : Value} {xs ys : List ByteArray} (h1 : Own encS 1 9 b1 w1 v1 xs) (h2 : Own encS 1 9 b2 w2 v2 ys) (hlt : w1.heap.size ≤ b2) :
    (∀ k ∈ exOf' v1, v2.ownBlock ≠ some k) ∧ (∀ k ∈ exOf' v2, v1.ownBlock ≠ some k) := by
  refine ⟨fun k hk e => ?_, fun k hk e => ?_⟩
  · have := own_above' h1 k hk
    have := own_above' h2 k (mem_exOf' e)
    omega
  · have := own_above' h2 k hk
    have := own_above' h1 k (mem_exOf' e)
    omega
theorem own_rd' {base : Nat} {w : World} {A : Option Addr} {n c : Nat} {xs : List ByteArray} (h : Own encS 1 9 base w (.slice A n c) xs) : RdT encS 1 w A xs ∧ xs.length = n ∧ n ≤ c ∧ c ≤ 9223372036854775807 := by
  obtain ⟨A', c', hv, h1, h2, _, h3⟩ := h.form
  cases hv
  exact ⟨h3, rfl, h1, h2⟩

theorem markStringS_any (base : Nat) (w : World) (v : Value) (k : Nat) (es : List ByteArray) (h : Own encS 1 9 base w v es) (hn : es.length ≤ 1048576) (hk1 : 1 ≤ k) (hk2 : k ≤ 1048592) :
    Calls Tryz.prog 49 #[v, .int .i64 k] w (MarkPostS base k es.length w v) := by
  have h' := h
  rcases h.2 with ⟨rfl, h0⟩ | ⟨g, cap, cur, rfl, hg, hh, _⟩
  · have he : es = [] := List.length_eq_zero_iff.1 h0
    subst he
    have HX := Lib.hid (show Own encS 1 9 base w (.slice none 0 0) (markT k 0) from Own.nil)
    clear h h'
    go_enter Tryz.func49, Tryz.ntmps49
    go_wp2_with fail
    go_loopw [1, 5] (fun x y wr => x = .int .i64 k ∧ y = .int .i64 0 ∧ wr = w) (fun x y _ => 0)
    case atStart => exact ⟨rfl, rfl, rfl⟩
    case round =>
      obtain ⟨rfl, rfl, rfl⟩ := hrel
      go_wp2_with fail
      go_ret
      exact ⟨rfl, HX.out, Kp.refl _ _⟩
  · have hlt : g < w.heap.size := by
      rcases Nat.lt_or_ge g w.heap.size with h' | h'
      · exact h'
      · rw [Array.getElem?_eq_none h'] at hh; cases hh
    exact markStringS_at base w g cap k es h' hn hk1 hk2 hlt

end Go.Proofs.YtafadedacbjioaaGreatDoor

/- Marking a list of numbers, and space; whether the marks are still there. -/
namespace Go.Proofs.YtafadedacbjioaaGreatDoor
open Go.RowKit
set_option maxRecDepth 100000
set_option linter.unusedVariables false
set_option linter.unusedSimpArgs false

def markN (k n : Nat) : List Int := (List.range n).map fun i => ((k + i : Nat) : Int)
theorem markN_length (k n : Nat) : (markN k n).length = n := by simp [markN]
theorem markN_get (k n i : Nat) (h : i < n) : (markN k n)[i]? = some ((k + i : Nat) : Int) := by simp [markN, h]

set_option maxHeartbeats 2000000 in
theorem heldIntS_any (w : World) (A : Option Addr) (cap n k : Nat) (h : RdT encN 1 w A (markN k n)) (hc : n ≤ cap) (hn : n ≤ 1048576) (hk2 : k ≤ 10485920) :
    Calls Tryz.prog 26 #[.slice A n cap, .int .i64 k] w fun e w' => e = .returned (.int .i64 ((k + n : Nat) : Int)) ∧ w = w' := by
  have HR := Lib.hid h
  clear h
  go_enter Tryz.func26, Tryz.ntmps26
  go_wp2_with fail
  go_loop [1, 5] (fun x y => ∃ (i K : Nat), i ≤ n ∧ K = k + i ∧ x = .int .i64 K ∧ y = .int .i64 i) (fun x y => n - (intOf y).toNat)
  case atStart => exact ⟨0, k, Nat.zero_le _, by omega, rfl, rfl⟩
  case round =>
    obtain ⟨i, K, hi, hK, rfl, rfl⟩ := hrel
    have HK := Lib.hid hK
    have hKb : K ≤ 20000000 := by omega
    clear hK
    by_cases hlt : i < n
    · obtain ⟨b, off, s, rfl, hb, he, c0⟩ := HR.out.num (k := i) (by rw [markN_length]; exact hlt)
      rw [markN_get _ _ _ hlt, ← HK.out] at he
      obtain rfl : ((K : Nat) : Int) = s := Option.some.inj he
      clear he
      go_wp2_with fail
      go_round
      case rel => exact ⟨i + 1, K + 1, by omega, by have := HK.out; omega, by go_num, by go_num⟩
      case measure => simp [intOf]; omega
    · obtain rfl : i = n := by omega
      have hKe := HK.out
      subst hKe
      go_wp2_with fail
      go_ret
      exact ⟨rfl, rfl⟩

def MarkPostN (base k n : Nat) (w : World) (v : Value) (e : Ending) (w' : World) : Prop := e = .returned (.int .i64 ((k + n : Nat) : Int)) ∧ Own encN 1 3 base w' v (markN k n) ∧ Kp (exOf' v) w w'

theorem markN_mix (k n i : Nat) (es : List Int) (hn : es.length = n) (hi : i < n) : ((markN k n).take i ++ es.drop i).set i ((k + i : Nat) : Int) = (markN k n).take (i + 1) ++ es.drop (i + 1) := by
  apply List.ext_getElem?
  intro j
  have h1 : ((markN k n).take i).length = i := by rw [List.length_take, markN_length]; omega
  have h2 : ((markN k n).take (i + 1)).length = i + 1 := by rw [List.length_take, markN_length]; omega
  by_cases hj : j < i
  · rw [List.getElem?_set_ne (by omega), List.getElem?_append_left (by omega), List.getElem?_append_left (by omega), List.getElem?_take, List.getElem?_take, if_pos hj, if_pos (by omega)]
  · by_cases hj2 : j = i
    · subst hj2
      rw [List.getElem?_set_self (by simp [markN_length]; omega), List.getElem?_append_left (by omega), List.getElem?_take, if_pos (by omega), markN_get _ _ _ hi]
    · rw [List.getElem?_set_ne (by omega), List.getElem?_append_right (by omega), List.getElem?_append_right (by omega), h1, h2, List.getElem?_drop, List.getElem?_drop]
      congr 1
      omega

set_option maxHeartbeats 2000000 in
theorem markIntS_at (base : Nat) (w : World) (g cap k : Nat) (es : List Int) (h : Own encN 1 3 base w (.slice (some ⟨g, 0, none⟩) es.length cap) es) (hn : es.length ≤ 1048576) (hk2 : k ≤ 10485920) (hg : g < w.heap.size) :
    Calls Tryz.prog 25 #[.slice (some ⟨g, 0, none⟩) es.length cap, .int .i64 k] w (MarkPostN base k es.length w (.slice (some ⟨g, 0, none⟩) es.length cap)) := by
  have HO := Lib.hid (show w.ownsRow base 3 1 (.slice (some ⟨g, 0, none⟩) es.length cap) es.length (cellsOf encN 1 es) from h)
  obtain ⟨A, cap', hv, hcc, hcm, _, _⟩ := h.form
  cases hv
  clear h
  go_enter Tryz.func25, Tryz.ntmps25
  go_wp2_with fail
  go_loopw [1, 5] (fun x y wr => ∃ (i K : Nat), i ≤ es.length ∧ K = k + i ∧ x = .int .i64 K ∧ y = .int .i64 i ∧ Hid (wr.ownsRow base 3 1 (.slice (some ⟨g, 0, none⟩) es.length cap) es.length (cellsOf encN 1 ((markN k es.length).take i ++ es.drop i))) ∧ Hid (Kp [g] w wr)) (fun x y _ => es.length - (intOf y).toNat)
  case atStart => exact ⟨0, k, Nat.zero_le _, by omega, rfl, rfl, by simpa using HO, Lib.hid (Kp.refl _ _)⟩
  case round =>
    obtain ⟨i, K, hi, hK, rfl, rfl, HW, HB⟩ := hrel
    have HK := Lib.hid hK
    have hKb : K ≤ 20000000 := by omega
    clear hK
    by_cases hlt : i < es.length
    · have hO2 := HW.out
      have hl : (cellsOf encN 1 ((markN k es.length).take i ++ es.drop i)).length = es.length * 1 := hO2.1
      obtain ⟨v0, hv0⟩ : ∃ v0, wr.cell? ⟨g, i, none⟩ = some v0 := ⟨_, (hO2.cellAt i (by omega)).trans (List.getElem?_eq_getElem (by omega))⟩
      have hf0 := hO2.frozenAt i
      clear hO2 hl
      go_wp2_with fail
      go_roundw
      case rel =>
        refine ⟨i + 1, K + 1, by omega, by have := HK.out; omega, by go_num, by go_num, ?_, ?_⟩
        · have h1 := (HW.out.stored i (.int .i64 (K : Int))).1
          have e := cellsOf_set1 (enc := encN) ((markN k es.length).take i ++ es.drop i) i (K : Int) (by simp [markN_length]; omega)
          have e2 := markN_mix k es.length i es rfl hlt
          rw [← HK.out] at e2
          rw [e2] at e
          rw [← e]
          exact h1
        · exact Lib.hid (HB.out.setCell (.inl (by simp)) _)
      case measure => simp [intOf]; omega
    · obtain rfl : i = es.length := by omega
      have hKe := HK.out
      subst hKe
      have HX := Lib.hid (show Own encN 1 3 base wr (.slice (some ⟨g, 0, none⟩) es.length cap) (markN k es.length) by
        have := HW.out
        rw [List.take_of_length_le (by rw [markN_length]; exact Nat.le_refl _), List.drop_of_length_le (Nat.le_refl _), List.append_nil] at this
        unfold Own
        rw [markN_length]
        exact this)
      go_wp2_with fail
      go_ret
      exact ⟨rfl, HX.out, HB.out⟩

theorem markIntS_any (base : Nat) (w : World) (v : Value) (k : Nat) (es : List Int) (h : Own encN 1 3 base w v es) (hn : es.length ≤ 1048576) (hk2 : k ≤ 10485920) :
    Calls Tryz.prog 25 #[v, .int .i64 k] w (MarkPostN base k es.length w v) := by
  have h' := h
  rcases h.2 with ⟨rfl, h0⟩ | ⟨g, cap, cur, rfl, hg, hh, _⟩
  · have he : es = [] := List.length_eq_zero_iff.1 h0
    subst he
    have HX := Lib.hid (show Own encN 1 3 base w (.slice none 0 0) (markN k 0) from Own.nil)
    clear h h'
    go_enter Tryz.func25, Tryz.ntmps25
    go_wp2_with fail
    go_loopw [1, 5] (fun x y wr => x = .int .i64 k ∧ y = .int .i64 0 ∧ wr = w) (fun x y _ => 0)
    case atStart => exact ⟨rfl, rfl, rfl⟩
    case round =>
      obtain ⟨rfl, rfl, rfl⟩ := hrel
      go_wp2_with fail
      go_ret
      exact ⟨rfl, HX.out, Kp.refl _ _⟩
  · have hlt : g < w.heap.size := by
      rcases Nat.lt_or_ge g w.heap.size with h' | h'
      · exact h'
      · rw [Array.getElem?_eq_none h'] at hh; cases hh
    exact markIntS_at base w g cap k es h' hn hk2 hlt

/-! Rows of the call's own, apart from each other, whatever their elements. -/
theorem own_in {α : Type} {enc : α → Nat → Value} {sz T base : Nat} {w : World} {v : Value} {xs : List α} (h : Own enc sz T base w v xs) : ∀ k ∈ exOf' v, base ≤ k ∧ k < w.heap.size := by
  rcases h.2 with ⟨rfl, _⟩ | ⟨g, cap, cur, rfl, hg, hh, _⟩
  · intro k hk; simp [exOf', Value.ownBlock] at hk
  · intro k hk
    simp [exOf', Value.ownBlock] at hk
    subst hk
    refine ⟨hg, ?_⟩
    rcases Nat.lt_or_ge k w.heap.size with h' | h'
    · exact h'
    · rw [Array.getElem?_eq_none h'] at hh; cases hh
theorem own_rdG {α : Type} {enc : α → Nat → Value} {sz T base : Nat} {w : World} {A : Option Addr} {n c : Nat} {xs : List α} (h : Own enc sz T base w (.slice A n c) xs) : RdT enc sz w A xs ∧ xs.length = n ∧ n ≤ c ∧ c ≤ 9223372036854775807 := by
  obtain ⟨A', c', hv, h1, h2, _, h3⟩ := h.form
  cases hv
  exact ⟨h3, rfl, h1, h2⟩
def Apart (v u : Value) : Prop := ∀ k ∈ exOf' v, k ∉ exOf' u
theorem Apart.symm {v u : Value} (h : Apart v u) : Apart u v := fun k hk hm => h k hm hk
theorem apart_nil (u : Value) : Apart (.slice none 0 0) u := fun k hk => by simp [exOf', Value.ownBlock] at hk
theorem apart_of {α β : Type} {e1 : α → Nat → Value} {e2 : β → Nat → Value} {s1 s2 T1 T2 b1 b2 : Nat} {w1 w2 : World} {v1 v2 : Value} {xs : List α} {ys : List β} (h1 : Own e1 s1 T1 b1 w1 v1 xs) (h2 : Own e2 s2 T2 b2 w2 v2 ys) (hlt : w1.heap.size ≤ b2) : Apart v1 v2 := fun k hk hm => by
  have := own_in h1 k hk
  have := own_in h2 k hm
  omega
/-- What another row's writing leaves alone. -/
theorem Own.kpx {α : Type} {enc : α → Nat → Value} {sz T base : Nat} {w w' : World} {v u : Value} {xs : List α} (h : Own enc sz T base w v xs) (hk : Kp (exOf' u) w w') (ha : Apart u v) : Own enc sz T base w' v xs :=
  h.kp hk (fun k hm e => ha k hm (mem_exOf' e))

def MarkSp (base k n m : Nat) (w : World) (v u : Value) (e : Ending) (w' : World) : Prop := e = .returned (.int .i64 ((k + n + m : Nat) : Int)) ∧ Own encN 1 3 base w' v (markN k n) ∧ Own encN 1 3 base w' u (markN (k + n) m) ∧ Kp (exOf' v ++ exOf' u) w w'

set_option maxHeartbeats 1000000 in
theorem markSpace_any (base : Nat) (w : World) (A B : Option Addr) (c d k : Nat) (xs ys : List Int) (h : Own encN 1 3 base w (.slice A xs.length c) xs) (g : Own encN 1 3 base w (.slice B ys.length d) ys) (ha : Apart (.slice A xs.length c) (.slice B ys.length d)) (hn : xs.length ≤ 1048576) (hm : ys.length ≤ 1048576) (hk2 : k ≤ 4194304) :
    Calls Tryz.prog 50 #[.agg #[.slice A xs.length c, .slice B ys.length d], .int .i64 k] w (MarkSp base k xs.length ys.length w (.slice A xs.length c) (.slice B ys.length d)) := by
  have HB := Lib.hid (below_alloc (Below.refl w.heap.size w) (.cells #[.slice A xs.length c, .slice B ys.length d] 35))
  have H0 := Lib.hid (h.below HB.out)
  have G0 := Lib.hid (g.below HB.out)
  have hin := own_in h
  have hin2 := own_in g
  have HI := Lib.hid (And.intro hin hin2)
  have HA := Lib.hid ha
  clear h g hin hin2 ha
  have H1 := Lib.hid (markIntS_any base _ _ k xs H0.out hn (by omega))
  have hlt : w.heap.size < (w.alloc (.cells #[.slice A xs.length c, .slice B ys.length d] 35)).heap.size := by simp
  go_enter Tryz.func50, Tryz.ntmps50
  go_wp2_with fail
  refine Calls.mono H1.out ?_
  rintro e w1 ⟨rfl, hO1, hK1⟩
  have s1 : w1.cell? ⟨w.heap.size, 1, none⟩ = some (.slice B ys.length d) := by
    rw [hK1.cell hlt (fun hm => by have := (HI.out.1 _ hm).2; omega)]
    simp [go_sem]
  have G1 := Lib.hid (G0.out.kpx hK1 HA.out)
  have O1 := Lib.hid hO1
  have K1 := Lib.hid (HB.out |> Kp.of_below |>.all _ |>.trans hK1)
  clear hO1 hK1 H1
  have H2 := Lib.hid (markIntS_any base w1 _ (k + xs.length) ys G1.out hm (by omega))
  generalize hp : k + xs.length = p at *
  have hpb : p ≤ 9000000 := by omega
  go_wp2_with fail
  refine Calls.mono H2.out ?_
  rintro e w2 ⟨rfl, hO2, hK2⟩
  have O2 := Lib.hid hO2
  have P2 := Lib.hid (O1.out.kpx hK2 HA.out.symm)
  have K2 := Lib.hid ((K1.out.mono (fun k hk => List.mem_append_left _ hk)).trans (hK2.mono (fun k hk => List.mem_append_right (exOf' (.slice A xs.length c)) hk)))
  clear hO2 hK2
  go_wp2_with fail
  go_ret
  exact ⟨show Ending.returned (.int .i64 ((p : Int) + (ys.length : Int))) = _ from ret_int (by rw [hp]; omega), P2.out, by rw [hp]; exact O2.out, K2.out⟩

end Go.Proofs.YtafadedacbjioaaGreatDoor

/- Space: whether it is valid, and where a free row is: both texts. -/
namespace Go.Proofs.YtafadedacbjioaaGreatDoor
open Go.RowKit
set_option linter.unusedVariables false
set_option linter.unusedSimpArgs false

/-- A row of space is valid. -/
def okRow (i : Nat) (n l : Int) : Bool := decide (0 ≤ n ∧ n ≤ l ∧ l ≤ 900 ∧ (n = 0 → l = 0) ∧ (0 < n → 8 ≤ i))
theorem okRow_iff {i : Nat} {n l : Int} : okRow i n l = true ↔ 0 ≤ n ∧ n ≤ l ∧ l ≤ 900 ∧ (n = 0 → l = 0) ∧ (0 < n → 8 ≤ i) := decide_eq_true_iff
theorem okRow_no {i : Nat} {n l : Int} (h : ¬ (0 ≤ n ∧ n ≤ l ∧ l ≤ 900 ∧ (n = 0 → l = 0) ∧ (0 < n → 8 ≤ i))) : okRow i n l = false := by
  cases hr : okRow i n l
  · rfl
  · exact absurd (okRow_iff.1 hr) h
def spaceB (rs ls : List Int) : Bool := decide (rs.length = 64) && (decide (ls.length = 64) && (List.range 64).all fun i => okRow i (rs.getD i 0) (ls.getD i 0))
theorem spaceB_len {rs ls : List Int} (h : ¬ rs.length = 64 ∨ ¬ ls.length = 64) : spaceB rs ls = false := by
  rcases h with h | h <;> simp [spaceB, h]
theorem spaceB_no {rs ls : List Int} {k : Nat} (hk : k < 64) (h : okRow k (rs.getD k 0) (ls.getD k 0) = false) : spaceB rs ls = false := by
  cases hs : spaceB rs ls
  · rfl
  · simp only [spaceB, Bool.and_eq_true, List.all_eq_true] at hs
    have := hs.2.2 k (List.mem_range.2 hk)
    rw [h] at this
    cases this
theorem spaceB_yes {rs ls : List Int} (h1 : rs.length = 64) (h2 : ls.length = 64) (h : ∀ i, i < 64 → okRow i (rs.getD i 0) (ls.getD i 0) = true) : spaceB rs ls = true := by
  simp only [spaceB, Bool.and_eq_true, decide_eq_true_eq, List.all_eq_true]
  exact ⟨h1, h2, fun i hi => h i (List.mem_range.1 hi)⟩

theorem num_at {w : World} {A : Option Addr} {xs : List Int} {k : Nat} (h : RdT encN 1 w A xs) (hk : k < xs.length) :
    ∃ b off, A = some ⟨b, off, none⟩ ∧ b < w.heap.size ∧ w.cell? ⟨b, off + k, none⟩ = some (.int .i64 (xs.getD k 0)) := by
  obtain ⟨b, off, s, rfl, hb, he, c⟩ := h.num hk
  refine ⟨b, off, rfl, hb, ?_⟩
  rw [c]
  have : xs.getD k 0 = s := by simp [List.getD, he]
  rw [this]

set_option maxHeartbeats 1000000 in
theorem spaceOk_any (w : World) (A B : Option Addr) (c d : Nat) (rs ls : List Int) (h : RdT encN 1 w A rs) (g : RdT encN 1 w B ls) (hc : rs.length ≤ c) (hd : ls.length ≤ d) (hcm : c ≤ 9223372036854775807) (hdm : d ≤ 9223372036854775807) :
    Calls Tryz.prog 66 #[.agg #[.slice A rs.length c, .slice B ls.length d]] w fun e w' => e = .returned (.bool (spaceB rs ls)) ∧ Below w.heap.size w w' := by
  by_cases h1 : rs.length = 64
  · by_cases h2 : ls.length = 64
    · have HR := Lib.hid h
      have HG := Lib.hid g
      have L1 := Lib.hid h1
      have L2 := Lib.hid h2
      rw [h1, h2]
      rw [h1] at hc
      rw [h2] at hd
      clear h g h1 h2
      go_enter Tryz.func66, Tryz.ntmps66
      go_wp2_with fail
      go_loopw [19] (fun v wr => ∃ k : Nat, k ≤ 64 ∧ v = .int .i64 k ∧ Hid (∀ i, i < k → okRow i (rs.getD i 0) (ls.getD i 0) = true) ∧ w.alloc (.cells #[.slice A 64 c, .slice B 64 d] 35) = wr) (fun v _ => 64 - (intOf v).toNat)
      case atStart => exact ⟨0, Nat.zero_le _, rfl, Lib.hid (fun i hi => by omega), rfl⟩
      case round =>
        obtain ⟨k, hk, rfl, HK, rfl⟩ := hrel
        by_cases hlt : k < 64
        · obtain ⟨b, off, rfl, hb, c0⟩ := num_at (k := k) HR.out (by rw [L1.out]; exact hlt)
          obtain ⟨b2, off2, rfl, hb2, c1⟩ := num_at (k := k) HG.out (by rw [L2.out]; exact hlt)
          have HN := Lib.hid (fun h => spaceB_no (rs := rs) (ls := ls) hlt h)
          have HK2 := Lib.hid (fun (h : okRow k (rs.getD k 0) (ls.getD k 0) = true) => (show ∀ i, i < k + 1 → okRow i (rs.getD i 0) (ls.getD i 0) = true from fun i hi => by
            rcases Nat.lt_or_ge i k with h' | h'
            · exact HK.out i h'
            · have : i = k := by omega
              subst this; exact h))
          generalize rs.getD k 0 = n at *
          generalize ls.getD k 0 = l at *
          have HW1 := Lib.hid (within_any n 0 900)
          have HW2 := Lib.hid (within_any l n 900)
          cases i1 : inB n 0 900
          · have := inB_false i1
            rw [i1] at HW1
            have E := Lib.hid (HN.out (okRow_no (by omega)))
            clear HN HK2
            go_wp2_with fail
            refine Calls.mono (HW1.out _) ?_
            rintro e w' ⟨rfl, rfl⟩
            go_wp2_with fail
            go_ret
            exact ⟨ret_bool E.out.symm, by (repeat (first | assumption | exact Below.refl _ _ | refine below_alloc ?_ _ | refine Below.drew ?_ | refine below_drewN ?_ _ | refine below_set ?_ (by first | exact Nat.le_refl _ | omega | (simp; done) | (simp; omega)) _ | refine below_kp ?_ (by assumption) (by simp) | refine below_below ?_ (by assumption)))⟩
          · have j1 := inB_true i1
            rw [i1] at HW1
            cases i2 : inB l n 900
            · have := inB_false i2
              rw [i2] at HW2
              have E := Lib.hid (HN.out (okRow_no (by omega)))
              clear HN HK2
              go_wp2_with fail
              refine Calls.mono (HW1.out _) ?_
              rintro e w' ⟨rfl, rfl⟩
              go_wp2_with fail
              refine Calls.mono (HW2.out _) ?_
              rintro e w' ⟨rfl, rfl⟩
              go_wp2_with fail
              go_ret
              exact ⟨ret_bool E.out.symm, by (repeat (first | assumption | exact Below.refl _ _ | refine below_alloc ?_ _ | refine Below.drew ?_ | refine below_drewN ?_ _ | refine below_set ?_ (by first | exact Nat.le_refl _ | omega | (simp; done) | (simp; omega)) _ | refine below_kp ?_ (by assumption) (by simp) | refine below_below ?_ (by assumption)))⟩
            · have j2 := inB_true i2
              rw [i2] at HW2
              by_cases hz : n = 0
              · have z1 : (n == 0) = true := by simpa using hz
                have z3 : ¬ 0 < n := by omega
                by_cases hlz : l = 0
                · have z2 : (l != 0) = false := by simp [bne, hlz]
                  clear i1 i2
                  have HK3 := Lib.hid (HK2.out (okRow_iff.2 (by omega)))
                  clear HN HK2 hz hlz
                  go_wp2_with fail
                  refine Calls.mono (HW1.out _) ?_
                  rintro e w' ⟨rfl, rfl⟩
                  go_wp2_with fail
                  refine Calls.mono (HW2.out _) ?_
                  rintro e w' ⟨rfl, rfl⟩
                  go_wp2_with fail
                  go_roundw
                  case rel => exact ⟨k + 1, by omega, by go_num, HK3, by trivial⟩
                  case measure => simp [intOf]; omega
                · have z2 : (l != 0) = true := by simpa [bne] using hlz
                  clear i1 i2
                  have E := Lib.hid (HN.out (okRow_no (by omega)))
                  clear HN HK2 hz
                  go_wp2_with fail
                  refine Calls.mono (HW1.out _) ?_
                  rintro e w' ⟨rfl, rfl⟩
                  go_wp2_with fail
                  refine Calls.mono (HW2.out _) ?_
                  rintro e w' ⟨rfl, rfl⟩
                  go_wp2_with fail
                  go_ret
                  exact ⟨ret_bool E.out.symm, by (repeat (first | assumption | exact Below.refl _ _ | refine below_alloc ?_ _ | refine Below.drew ?_ | refine below_drewN ?_ _ | refine below_set ?_ (by first | exact Nat.le_refl _ | omega | (simp; done) | (simp; omega)) _ | refine below_kp ?_ (by assumption) (by simp) | refine below_below ?_ (by assumption)))⟩
              · have z1 : (n == 0) = false := by simpa using hz
                have z3 : 0 < n := by omega
                by_cases h8 : (k : Int) < 8
                · clear i1 i2
                  have E := Lib.hid (HN.out (okRow_no (by omega)))
                  clear HN HK2
                  go_wp2_with fail
                  refine Calls.mono (HW1.out _) ?_
                  rintro e w' ⟨rfl, rfl⟩
                  go_wp2_with fail
                  refine Calls.mono (HW2.out _) ?_
                  rintro e w' ⟨rfl, rfl⟩
                  go_wp2_with fail
                  go_ret
                  exact ⟨ret_bool E.out.symm, by (repeat (first | assumption | exact Below.refl _ _ | refine below_alloc ?_ _ | refine Below.drew ?_ | refine below_drewN ?_ _ | refine below_set ?_ (by first | exact Nat.le_refl _ | omega | (simp; done) | (simp; omega)) _ | refine below_kp ?_ (by assumption) (by simp) | refine below_below ?_ (by assumption)))⟩
                · clear i1 i2
                  have HK3 := Lib.hid (HK2.out (okRow_iff.2 (by omega)))
                  clear HN HK2
                  go_wp2_with fail
                  refine Calls.mono (HW1.out _) ?_
                  rintro e w' ⟨rfl, rfl⟩
                  go_wp2_with fail
                  refine Calls.mono (HW2.out _) ?_
                  rintro e w' ⟨rfl, rfl⟩
                  go_wp2_with fail
                  go_roundw
                  case rel => exact ⟨k + 1, by omega, by go_num, HK3, by trivial⟩
                  case measure => simp [intOf]; omega
        · obtain rfl : k = 64 := by omega
          have E := Lib.hid (spaceB_yes L1.out L2.out HK.out)
          go_wp2_with fail
          go_ret
          exact ⟨ret_bool E.out.symm, by (repeat (first | assumption | exact Below.refl _ _ | refine below_alloc ?_ _ | refine Below.drew ?_ | refine below_drewN ?_ _ | refine below_set ?_ (by first | exact Nat.le_refl _ | omega | (simp; done) | (simp; omega)) _ | refine below_kp ?_ (by assumption) (by simp) | refine below_below ?_ (by assumption)))⟩
    · have E := Lib.hid (spaceB_len (rs := rs) (ls := ls) (.inr h2))
      have g2 : ((ls.length : Int) != 64) = true := by simp [bne]; omega
      have g1 : ((rs.length : Int) != 64) = false := by simp [bne]; omega
      clear h g
      go_enter Tryz.func66, Tryz.ntmps66
      go_wp2_with fail
      go_ret
      exact ⟨ret_bool E.out.symm, by (repeat (first | assumption | exact Below.refl _ _ | refine below_alloc ?_ _ | refine Below.drew ?_ | refine below_drewN ?_ _ | refine below_set ?_ (by first | exact Nat.le_refl _ | omega | (simp; done) | (simp; omega)) _ | refine below_kp ?_ (by assumption) (by simp) | refine below_below ?_ (by assumption)))⟩
  · have E := Lib.hid (spaceB_len (rs := rs) (ls := ls) (.inl h1))
    have g1 : ((rs.length : Int) != 64) = true := by simp [bne]; omega
    clear h g
    go_enter Tryz.func66, Tryz.ntmps66
    go_wp2_with fail
    go_ret
    exact ⟨ret_bool E.out.symm, by (repeat (first | assumption | exact Below.refl _ _ | refine below_alloc ?_ _ | refine Below.drew ?_ | refine below_drewN ?_ _ | refine below_set ?_ (by first | exact Nat.le_refl _ | omega | (simp; done) | (simp; omega)) _ | refine below_kp ?_ (by assumption) (by simp) | refine below_below ?_ (by assumption)))⟩

end Go.Proofs.YtafadedacbjioaaGreatDoor

/- Space: the reference's SpaceOk. -/
namespace Go.Proofs.YtafadedacbjioaaGreatDoor
open Go.RowKit
set_option linter.unusedVariables false
set_option linter.unusedSimpArgs false

set_option maxHeartbeats 2000000 in
theorem specSpaceOk_any (w : World) (A B : Option Addr) (c d : Nat) (rs ls : List Int) (h : RdT encN 1 w A rs) (g : RdT encN 1 w B ls) (hc : rs.length ≤ c) (hd : ls.length ≤ d) (hcm : c ≤ 9223372036854775807) (hdm : d ≤ 9223372036854775807) :
    Calls Tryz.prog 73 #[.agg #[.slice A rs.length c, .slice B ls.length d]] w fun e w' => e = .returned (.bool (spaceB rs ls)) ∧ Below w.heap.size w w' := by
  by_cases h1 : rs.length = 64
  · by_cases h2 : ls.length = 64
    · have HR := Lib.hid h
      have HG := Lib.hid g
      have L1 := Lib.hid h1
      have L2 := Lib.hid h2
      rw [h1, h2]
      rw [h1] at hc
      rw [h2] at hd
      clear h g h1 h2
      go_enter Tryz.func73, Tryz.ntmps73
      go_wp2_with fail
      obtain ⟨Wa, hWa⟩ : ∃ Wa, Wa = w.alloc (.cells #[.slice A 64 c, .slice B 64 d] 35) := ⟨_, rfl⟩
      have hsz : Wa.heap.size = w.heap.size + 1 := by rw [hWa]; simp
      have s0 : Wa.cell? ⟨w.heap.size, 0, none⟩ = some (.slice A 64 c) := by rw [hWa]; unfold World.cell?; simp only [heap_alloc_new]; rfl
      have s1 : Wa.cell? ⟨w.heap.size, 1, none⟩ = some (.slice B 64 d) := by rw [hWa]; unfold World.cell?; simp only [heap_alloc_new]; rfl
      have hBa := Lib.hid (show Below w.heap.size w Wa by rw [hWa]; exact (Below.refl _ _).alloc (Nat.le_refl _) _)
      have hlt0 : w.heap.size < Wa.heap.size := by omega
      rw [← hWa]
      clear hWa hsz
      go_loopw [3] (fun v wr => ∃ k : Nat, k ≤ 64 ∧ v = .int .i64 k ∧ Hid (∀ i, i < k → okRow i (rs.getD i 0) (ls.getD i 0) = true) ∧ Hid (Below Wa.heap.size Wa wr)) (fun v _ => 64 - (intOf v).toNat)
      case atStart => exact ⟨0, Nat.zero_le _, rfl, Lib.hid (fun i hi => by omega), Lib.hid (Below.refl _ _)⟩
      case round =>
        obtain ⟨k, hk, rfl, HK, HB⟩ := hrel
        obtain ⟨cb, fb⟩ := bcell HB.out
        have hltr : w.heap.size < wr.heap.size := Nat.lt_of_lt_of_le hlt0 HB.out.size
        have HBw := Lib.hid (show Below w.heap.size w wr from hBa.out.trans (HB.out.mono (by omega)))
        by_cases hlt : k < 64
        · obtain ⟨b, off, rfl, hb, c0⟩ := num_at (k := k) (HR.out.below HBw.out) (by rw [L1.out]; exact hlt)
          obtain ⟨b2, off2, rfl, hb2, c1⟩ := num_at (k := k) (HG.out.below HBw.out) (by rw [L2.out]; exact hlt)
          have HN := Lib.hid (fun h => spaceB_no (rs := rs) (ls := ls) hlt h)
          have HK2 := Lib.hid (fun (h : okRow k (rs.getD k 0) (ls.getD k 0) = true) => (show ∀ i, i < k + 1 → okRow i (rs.getD i 0) (ls.getD i 0) = true from fun i hi => by
            rcases Nat.lt_or_ge i k with h' | h'
            · exact HK.out i h'
            · have : i = k := by omega
              subst this; exact h))
          generalize rs.getD k 0 = n at *
          generalize ls.getD k 0 = l at *
          have t0 := (cb _ 0 hlt0).trans s0
          have t1 := (cb _ 1 hlt0).trans s1
          have HW1 := Lib.hid (l6In_any l 0 900)
          have HW2 := Lib.hid (l6In_any n 0 l)
          have HW3 := Lib.hid (l2Row_any (k : Int))
          clear s0 s1 cb fb
          cases i1 : inB l 0 900
          · have := inB_false i1
            rw [i1] at HW1
            have E := Lib.hid (HN.out (okRow_no (by omega)))
            clear HN HK2 HK
            go_wp2_with fail
            refine wp_quiet_b (by kernel_rfl) (by kernel_rfl) (fun hgrow => ?_)
            repeat (go_big_quiet_step ((go_at_call 54; exact quiet_s (HW1.out _))))
            refine wpQuiet_nil ?_
            intro w2 hww2
            replace hww2 := below_of_regrown hww2
            clear hgrow
            go_wp2_with fail
            go_ret
            exact ⟨ret_bool E.out.symm, below_below HBw.out hww2⟩
          · have j1 := inB_true i1
            rw [i1] at HW1
            cases i2 : inB n 0 l
            · have := inB_false i2
              rw [i2] at HW2
              have E := Lib.hid (HN.out (okRow_no (by omega)))
              clear HN HK2 HK
              go_wp2_with fail
              refine wp_quiet_b (by kernel_rfl) (by kernel_rfl) (fun hgrow => ?_)
              repeat (go_big_quiet_step ((first | (go_at_call 54; with_reducible exact quiet_s (HW1.out _)) | (go_at_call 54; with_reducible exact quiet_s (HW2.out _)) | (go_at_call 87; with_reducible exact quiet_s (HW3.out _)))))
              refine wpQuiet_nil ?_
              intro w2 hww2
              replace hww2 := below_of_regrown hww2
              clear hgrow
              go_wp2_with fail
              go_ret
              exact ⟨ret_bool E.out.symm, below_below HBw.out hww2⟩
            · have j2 := inB_true i2
              rw [i2] at HW2
              by_cases hz : n = 0
              · have z1 : (n == 0) = true := by simpa using hz
                have z3 : ¬ 0 < n := by omega
                by_cases hlz : l = 0
                · have z2 : (l != 0) = false := by simp [bne, hlz]
                  clear i1 i2
                  cases i3 : inB (k : Int) 8 63
                  all_goals
                    rw [i3] at HW3
                    have HK3 := Lib.hid (HK2.out (okRow_iff.2 (by omega)))
                    clear HN HK2 HK hz hlz
                    go_wp2_with fail
                    refine wp_quiet_b (by kernel_rfl) (by kernel_rfl) (fun hgrow => ?_)
                    repeat (go_big_quiet_step ((first | (go_at_call 54; with_reducible exact quiet_s (HW1.out _)) | (go_at_call 54; with_reducible exact quiet_s (HW2.out _)) | (go_at_call 87; with_reducible exact quiet_s (HW3.out _)))))
                    refine wpQuiet_nil ?_
                    intro w2 hww2
                    replace hww2 := below_of_regrown hww2
                    clear hgrow
                    go_wp2_with fail
                    go_roundw
                    case rel => exact ⟨k + 1, by omega, by go_num, HK3, Lib.hid (below_below HB.out hww2)⟩
                    case measure => simp [intOf]; omega
                · have z2 : (l != 0) = true := by simpa [bne] using hlz
                  clear i1 i2
                  have E := Lib.hid (HN.out (okRow_no (by omega)))
                  clear HN HK2 HK hz
                  go_wp2_with fail
                  refine wp_quiet_b (by kernel_rfl) (by kernel_rfl) (fun hgrow => ?_)
                  repeat (go_big_quiet_step ((first | (go_at_call 54; with_reducible exact quiet_s (HW1.out _)) | (go_at_call 54; with_reducible exact quiet_s (HW2.out _)) | (go_at_call 87; with_reducible exact quiet_s (HW3.out _)))))
                  refine wpQuiet_nil ?_
                  intro w2 hww2
                  replace hww2 := below_of_regrown hww2
                  clear hgrow
                  go_wp2_with fail
                  go_ret
                  exact ⟨ret_bool E.out.symm, below_below HBw.out hww2⟩
              · have z1 : (n == 0) = false := by simpa using hz
                have z3 : 0 < n := by omega
                clear i1 i2
                cases i3 : inB (k : Int) 8 63
                · have := inB_false i3
                  rw [i3] at HW3
                  have E := Lib.hid (HN.out (okRow_no (by omega)))
                  clear HN HK2 HK
                  go_wp2_with fail
                  refine wp_quiet_b (by kernel_rfl) (by kernel_rfl) (fun hgrow => ?_)
                  repeat (go_big_quiet_step ((first | (go_at_call 54; with_reducible exact quiet_s (HW1.out _)) | (go_at_call 54; with_reducible exact quiet_s (HW2.out _)) | (go_at_call 87; with_reducible exact quiet_s (HW3.out _)))))
                  refine wpQuiet_nil ?_
                  intro w2 hww2
                  replace hww2 := below_of_regrown hww2
                  clear hgrow
                  go_wp2_with fail
                  go_ret
                  exact ⟨ret_bool E.out.symm, below_below HBw.out hww2⟩
                · have := inB_true i3
                  rw [i3] at HW3
                  have HK3 := Lib.hid (HK2.out (okRow_iff.2 (by omega)))
                  clear HN HK2 HK
                  go_wp2_with fail
                  refine wp_quiet_b (by kernel_rfl) (by kernel_rfl) (fun hgrow => ?_)
                  repeat (go_big_quiet_step ((first | (go_at_call 54; with_reducible exact quiet_s (HW1.out _)) | (go_at_call 54; with_reducible exact quiet_s (HW2.out _)) | (go_at_call 87; with_reducible exact quiet_s (HW3.out _)))))
                  refine wpQuiet_nil ?_
                  intro w2 hww2
                  replace hww2 := below_of_regrown hww2
                  clear hgrow
                  go_wp2_with fail
                  go_roundw
                  case rel => exact ⟨k + 1, by omega, by go_num, HK3, Lib.hid (below_below HB.out hww2)⟩
                  case measure => simp [intOf]; omega
        · obtain rfl : k = 64 := by omega
          have E := Lib.hid (spaceB_yes L1.out L2.out HK.out)
          go_wp2_with fail
          go_ret
          exact ⟨ret_bool E.out.symm, HBw.out⟩
    · have E := Lib.hid (spaceB_len (rs := rs) (ls := ls) (.inr h2))
      have g2 : ((ls.length : Int) != 64) = true := by simp [bne]; omega
      have g1 : ((rs.length : Int) != 64) = false := by simp [bne]; omega
      clear h g
      go_enter Tryz.func73, Tryz.ntmps73
      go_wp2_with fail
      go_ret
      exact ⟨ret_bool E.out.symm, by (repeat (first | assumption | exact Below.refl _ _ | refine below_alloc ?_ _ | refine Below.drew ?_ | refine below_drewN ?_ _ | refine below_set ?_ (by first | exact Nat.le_refl _ | omega | (simp; done) | (simp; omega)) _ | refine below_kp ?_ (by assumption) (by simp) | refine below_below ?_ (by assumption)))⟩
  · have E := Lib.hid (spaceB_len (rs := rs) (ls := ls) (.inl h1))
    have g1 : ((rs.length : Int) != 64) = true := by simp [bne]; omega
    clear h g
    go_enter Tryz.func73, Tryz.ntmps73
    go_wp2_with fail
    go_ret
    exact ⟨ret_bool E.out.symm, by (repeat (first | assumption | exact Below.refl _ _ | refine below_alloc ?_ _ | refine Below.drew ?_ | refine below_drewN ?_ _ | refine below_set ?_ (by first | exact Nat.le_refl _ | omega | (simp; done) | (simp; omega)) _ | refine below_kp ?_ (by assumption) (by simp) | refine below_below ?_ (by assumption)))⟩

end Go.Proofs.YtafadedacbjioaaGreatDoor

/- The laws' own helpers over space; the argument opened. -/
namespace Go.Proofs.YtafadedacbjioaaGreatDoor
open Go.RowKit
set_option maxRecDepth 100000
set_option linter.unusedVariables false
set_option linter.unusedSimpArgs false

def SzN (w : World) (left : Int) (n : Nat) (e : Ending) (w' : World) : Prop := ∃ r : Int, e = .returned (.int .i64 r) ∧ -1 ≤ r ∧ r ≤ left ∧ (0 ≤ r → r + (n : Int) = left) ∧ w = w'

theorem szIntS_any (w : World) (A : Option Addr) (n c : Nat) (left : Int) (hn : n ≤ 9223372036854775807) (h0 : 0 ≤ left) (h1 : left ≤ 1048576) :
    Calls Tryz.prog 63 #[.slice A n c, .int .i64 left] w (SzN w left n) := by
  by_cases h : left - (n : Int) < 0
  · go_enter Tryz.func63, Tryz.ntmps63
    go_wp2
    go_ret
    exact ⟨-1, rfl, by omega, by omega, by omega, rfl⟩
  · go_enter Tryz.func63, Tryz.ntmps63
    go_wp2
    go_ret
    exact ⟨left - n, rfl, by omega, by omega, by omega, rfl⟩

def SzSp (w : World) (left : Int) (n m : Nat) (e : Ending) (w' : World) : Prop := ∃ r : Int, e = .returned (.int .i64 r) ∧ (0 ≤ r → (n : Int) ≤ left ∧ (m : Int) ≤ left) ∧ Below w.heap.size w w'

theorem szSpace_any (w : World) (A B : Option Addr) (n c m d : Nat) (left : Int) (hn : n ≤ 9223372036854775807) (hm : m ≤ 9223372036854775807) (h0 : 0 ≤ left) (h1 : left ≤ 1048576) :
    Calls Tryz.prog 36 #[.agg #[.slice A n c, .slice B m d], .int .i64 left] w (SzSp w left n m) := by
  have HBa := Lib.hid (below_alloc (Below.refl w.heap.size w) (.cells #[.slice A n c, .slice B m d] 25))
  go_enter Tryz.func36, Tryz.ntmps36
  go_wp2_with fail
  refine Calls.mono (szIntS_any _ A n c left hn h0 h1) ?_
  rintro e w' ⟨r, rfl, hr0, hr1, hr2, rfl⟩
  by_cases hneg : r < 0
  · go_wp2_with fail
    go_ret
    exact ⟨-1, rfl, by omega, HBa.out⟩
  · go_wp2_with fail
    refine Calls.mono (szIntS_any _ B m d r hm (by omega) (by omega)) ?_
    rintro e w' ⟨r2, rfl, hs0, hs1, hs2, rfl⟩
    by_cases hneg2 : r2 < 0
    · go_wp2_with fail
      go_ret
      exact ⟨-1, rfl, by omega, HBa.out⟩
    · go_wp2_with fail
      go_ret
      exact ⟨r2, rfl, fun _ => ⟨by omega, by omega⟩, HBa.out⟩

def SpPost (w : World) (rs ls : List Int) (e : Ending) (w' : World) : Prop := ∃ A c B d, e = .returned (.agg #[.slice A rs.length c, .slice B ls.length d]) ∧ rs.length ≤ c ∧ c ≤ 9223372036854775807 ∧ ls.length ≤ d ∧ d ≤ 9223372036854775807 ∧ RdT encN 1 w' A rs ∧ RdT encN 1 w' B ls ∧ Below w.heap.size w w'

set_option maxHeartbeats 2000000 in
theorem toSpace_any (w : World) (A B : Option Addr) (c d : Nat) (rs ls : List Int) (h : RdT encN 1 w A rs) (g : RdT encN 1 w B ls) (hc : rs.length ≤ c) (hd : ls.length ≤ d) (hn : rs.length ≤ 1048576) (hm : ls.length ≤ 1048576) :
    Calls Tryz.prog 39 #[.agg #[.slice A rs.length c, .slice B ls.length d]] w (SpPost w rs ls) := by
  have HR := Lib.hid h
  have HG := Lib.hid g
  clear h g
  go_enter Tryz.func39, Tryz.ntmps39
  go_wp2_with fail
  have HBw := Lib.hid (below_alloc (below_alloc (below_alloc (Below.refl w.heap.size w) (.cells #[.slice A rs.length c, .slice B ls.length d] 25)) (.cells #[.slice none 0 0, .slice none 0 0] 35)) (.cells #[.slice none 0 0, .slice none 0 0] 35))
  refine Calls.mono (toIntS_any _ A c rs (HR.out.below HBw.out) hc hn) ?_
  rintro e w1 ⟨v1, rfl, hO1, hB1⟩
  obtain ⟨A1, cap1, rfl, hc1, hm1, hge1, hR1⟩ := hO1.form
  have HB1 := Lib.hid (below_below HBw.out hB1)
  have HR1 := Lib.hid hR1
  have HG1 := Lib.hid hge1
  obtain ⟨c1, f1⟩ := bcell hB1
  have hz1 : w.heap.size + 1 + 1 < w1.heap.size := by have := hB1.size; simp at this; omega
  have hy1 : w.heap.size + 1 < w1.heap.size := by omega
  have hx1 : w.heap.size < w1.heap.size := by omega
  clear hB1 hO1 hR1 hge1
  go_wp2_with fail
  have HBs := Lib.hid (below_set HB1.out (p := ⟨w.heap.size + 1 + 1, 0, none⟩) (by dsimp only; omega) (.slice A1 rs.length cap1))
  have hS1 : (w1.setCell ⟨w.heap.size + 1 + 1, 0, none⟩ (.slice A1 rs.length cap1)).heap.size = w1.heap.size := World.size_setCell _ _ _
  refine Calls.mono (toIntS_any _ B d ls (HG.out.below HBs.out) hd hm) ?_
  rintro e w2 ⟨v2, rfl, hO2, hB2⟩
  obtain ⟨A2, cap2, rfl, hc2, hm2, hge2, hR2⟩ := hO2.form
  have HB2 := Lib.hid (below_below HBs.out hB2)
  have hz2 : w.heap.size + 1 + 1 < w2.heap.size := by have := hB2.size; rw [hS1] at this; omega
  have hy2 : w.heap.size + 1 < w2.heap.size := by omega
  have HR2 := Lib.hid hR2
  have HG2 := Lib.hid hge2
  have HK := Lib.hid (Kp.of_below hB2)
  obtain ⟨c2, f2⟩ := bcell hB2
  rw [hS1] at c2 f2
  clear hB2 hO2 hR2 hge2
  have k1 : Kp [w.heap.size + 1, w.heap.size + 1 + 1] w1 (w1.setCell ⟨w.heap.size + 1 + 1, 0, none⟩ (.slice A1 rs.length cap1)) := (Kp.refl _ _).setCell (.inl (by simp)) _
  have HK2 := Lib.hid (k1.trans (HK.out.all _))
  clear k1
  go_wp2_with fail
  have HKf := Lib.hid ((((Kp.refl [w.heap.size + 1, w.heap.size + 1 + 1] w2).setCell (p := ⟨w.heap.size + 1 + 1, 1, none⟩) (.inl (by simp)) (.slice A2 ls.length cap2)).setCell (p := ⟨w.heap.size + 1, 0, none⟩) (.inl (by simp)) (.slice A1 rs.length cap1)).setCell (p := ⟨w.heap.size + 1, 1, none⟩) (.inl (by simp)) (.slice A2 ls.length cap2))
  have HBf := Lib.hid (below_set (below_set (below_set HB2.out (p := ⟨w.heap.size + 1 + 1, 1, none⟩) (by dsimp only; omega) (.slice A2 ls.length cap2)) (p := ⟨w.heap.size + 1, 0, none⟩) (by dsimp only; omega) (.slice A1 rs.length cap1)) (p := ⟨w.heap.size + 1, 1, none⟩) (by dsimp only; omega) (.slice A2 ls.length cap2))
  have HRf := (HR1.out.kp (HK2.out.trans HKf.out) (fun _ a ha => by have := (HG1.out a ha).1; simp at this; simp; omega))
  have HRg := (HR2.out.kp HKf.out (fun _ a ha => by have := (HG2.out a ha).1; rw [hS1] at this; simp; omega))

  refine bodyPost_ret (v := .agg #[.slice A1 rs.length cap1, .slice A2 ls.length cap2]) (by simp [results, Tryz.results39, go_sem, c2, c1, hy1, hx1]) rfl ⟨A1, cap1, A2, cap2, rfl, hc1, hm1, hc2, hm2, HRf, HRg, HBf.out⟩

set_option maxHeartbeats 2000000 in
theorem eqSpace_true (w : World) (A B A' B' : Option Addr) (c d c' d' : Nat) (rs ls : List Int) (hA : RdT encN 1 w A rs) (hB : RdT encN 1 w B ls) (hA' : RdT encN 1 w A' rs) (hB' : RdT encN 1 w B' ls)
    (hc : rs.length ≤ c) (hd : ls.length ≤ d) (hc' : rs.length ≤ c') (hd' : ls.length ≤ d') (hm : c ≤ 9223372036854775807) (hn : d ≤ 9223372036854775807) :
    Calls Tryz.prog 43 #[.agg #[.slice A rs.length c, .slice B ls.length d], .agg #[.slice A' rs.length c', .slice B' ls.length d']] w fun e w' => e = .returned (.bool true) ∧ Below w.heap.size w w' := by
  have HA := Lib.hid hA
  have HB := Lib.hid hB
  have HA' := Lib.hid hA'
  have HB' := Lib.hid hB'
  clear hA hB hA' hB'
  have HBw := Lib.hid (below_alloc (below_alloc (Below.refl w.heap.size w) (.cells #[.slice A rs.length c, .slice B ls.length d] 35)) (.cells #[.slice A' rs.length c', .slice B' ls.length d'] 35))
  go_enter Tryz.func43, Tryz.ntmps43
  go_wp2_with fail
  refine Calls.mono (eqIntS_true _ A A' c c' rs (HA.out.below HBw.out) (HA'.out.below HBw.out) hc hc' hm) ?_
  rintro e w1 ⟨rfl, hB1⟩
  have HB1 := Lib.hid (below_below HBw.out hB1)
  obtain ⟨c1, f1⟩ := bcell hB1
  have hz1 : w.heap.size + 1 < w1.heap.size := by have := hB1.size; simp at this; omega
  have hx1 : w.heap.size < w1.heap.size := by omega
  clear hB1
  go_wp2_with fail
  refine Calls.mono (eqIntS_true _ B B' d d' ls (HB.out.below HB1.out) (HB'.out.below HB1.out) hd hd' hn) ?_
  rintro e w2 ⟨rfl, hB2⟩
  have HB2 := Lib.hid (below_below HB1.out hB2)
  clear hB2
  go_wp2_with fail
  go_ret
  exact ⟨rfl, HB2.out⟩

section
open Go.ChangeShapes Go.WideShapes Go.ChangeAt
/-- A space that came in. -/
theorem open_space {H : Type} {enc : TypeId × Value → H} {W : World} {r : Reach} {b0 base : Nat} {v : Value} {dd : DataW H} {p : List MemPlace} (hval : Value.okWide Tryz.prog W r b0 25 v) (h : DataW.Trod enc Tryz.prog W base (fun _ => true) true 25 v dd p) :
    ∃ A c B d rs ls, v = .agg #[.slice A (List.length rs) c, .slice B (List.length ls) d] ∧ rs.length ≤ c ∧ ls.length ≤ d ∧ c ≤ 9223372036854775807 ∧ d ≤ 9223372036854775807 ∧ RdT encN 1 W A rs ∧ RdT encN 1 W B ls := by
  have c1 : Tryz.prog.cellsOf 23 = 1 := by kernel_rfl
  have c2 : Tryz.prog.cellsOf 25 = 2 := by kernel_rfl
  obtain ⟨⟨cs⟩, rfl, hsz⟩ := okWide_struct Tryz.underlying25 hval
  obtain ⟨fuel, hf⟩ := h
  have hsz' : cs.length = 2 := by rw [← c2]; exact hsz
  match cs, hsz' with
  | [x0, x1], _ =>
    replace hf : DataW.trod enc Tryz.prog W base (fun _ => true) true fuel 25 [x0, x1] = some (dd, p) := hf
    obtain ⟨n0, y0, t0⟩ := trod_at Tryz.underlying25 hf 0 rfl rfl rfl c1 rfl
    obtain ⟨n1, y1, t1⟩ := trod_at Tryz.underlying25 hf 1 rfl rfl rfl c1 rfl
    obtain ⟨A, c, rs, rfl, hc, hm, hr⟩ := open_nums t0
    obtain ⟨B, d, ls, rfl, hd, hn, hl⟩ := open_nums t1
    exact ⟨A, c, B, d, rs, ls, rfl, hc, hd, hm, hn, hr, hl⟩
/-- A list of numbers that came in. -/
theorem open_ints' {H : Type} {enc : TypeId × Value → H} {W : World} {r : Reach} {b0 base : Nat} {v : Value} {dd : DataW H} {p : List MemPlace} (hval : Value.okWide Tryz.prog W r b0 23 v) (h : DataW.Trod enc Tryz.prog W base (fun _ => true) true 23 v dd p) :
    ∃ (A : Option Addr) (cap : Nat) (xs : List Int), v = .slice A xs.length cap ∧ xs.length ≤ cap ∧ cap ≤ 9223372036854775807 ∧ RdT encN 1 W A xs := by
  obtain ⟨a0, len0, cap0, rfl⟩ := okWide_slice Tryz.underlying23 hval
  obtain ⟨fuel, hf⟩ := h
  exact open_nums (v := .slice a0 len0 cap0) hf
end

end Go.Proofs.YtafadedacbjioaaGreatDoor

/- Stores: as they lie in memory; the laws' own helpers over them. -/
namespace Go.Proofs.YtafadedacbjioaaGreatDoor
open Go.RowKit
set_option maxRecDepth 100000
set_option linter.unusedVariables false
set_option linter.unusedSimpArgs false

structure St where
  rows : List ByteArray
  refs : List Int
  last : List Int
  txg : Int
  gone : List Pt
  keep : Int
  dead : List Pt
  same : Bool
/-- Where a store's slices lie. -/
structure SA where
  R : Option Addr
  nR : Nat
  cR : Nat
  A : Option Addr
  nA : Nat
  cA : Nat
  B : Option Addr
  nB : Nat
  cB : Nat
  G : Option Addr
  nG : Nat
  cG : Nat
  D : Option Addr
  nD : Nat
  cD : Nat
def SA.v (x : SA) (t k : Int) (b : Bool) : Value := .agg #[.slice x.R x.nR x.cR, .slice x.A x.nA x.cA, .slice x.B x.nB x.cB, .int .i64 t, .slice x.G x.nG x.cG, .int .i64 k, .slice x.D x.nD x.cD, .bool b]
structure SRd (w : World) (x : SA) (s : St) : Prop where
  rows : RdT encS 1 w x.R s.rows
  refs : RdT encN 1 w x.A s.refs
  last : RdT encN 1 w x.B s.last
  gone : RdT encP 5 w x.G s.gone
  dead : RdT encP 5 w x.D s.dead
  lR : s.rows.length = x.nR
  lA : s.refs.length = x.nA
  lB : s.last.length = x.nB
  lG : s.gone.length = x.nG
  lD : s.dead.length = x.nD
  hR : x.nR ≤ x.cR
  hA : x.nA ≤ x.cA
  hB : x.nB ≤ x.cB
  hG : x.nG ≤ x.cG
  hD : x.nD ≤ x.cD
  mR : x.cR ≤ 9223372036854775807
  mA : x.cA ≤ 9223372036854775807
  mB : x.cB ≤ 9223372036854775807
  mG : x.cG ≤ 9223372036854775807
  mD : x.cD ≤ 9223372036854775807
theorem SRd.below {w w' : World} {x : SA} {s : St} (h : SRd w x s) (hb : Below w.heap.size w w') : SRd w' x s :=
  { h with rows := h.rows.below hb, refs := h.refs.below hb, last := h.last.below hb, gone := h.gone.below hb, dead := h.dead.below hb }
/-- The rows are the call's own, and apart. -/
structure SOwn (base : Nat) (w : World) (x : SA) (s : St) : Prop where
  rows : Own encS 1 9 base w (.slice x.R x.nR x.cR) s.rows
  refs : Own encN 1 3 base w (.slice x.A x.nA x.cA) s.refs
  last : Own encN 1 3 base w (.slice x.B x.nB x.cB) s.last
  gone : Own encP 5 40 base w (.slice x.G x.nG x.cG) s.gone
  dead : Own encP 5 40 base w (.slice x.D x.nD x.cD) s.dead
  rA : Apart (.slice x.R x.nR x.cR) (.slice x.A x.nA x.cA)
  rB : Apart (.slice x.R x.nR x.cR) (.slice x.B x.nB x.cB)
  rG : Apart (.slice x.R x.nR x.cR) (.slice x.G x.nG x.cG)
  rD : Apart (.slice x.R x.nR x.cR) (.slice x.D x.nD x.cD)
  aB : Apart (.slice x.A x.nA x.cA) (.slice x.B x.nB x.cB)
  aG : Apart (.slice x.A x.nA x.cA) (.slice x.G x.nG x.cG)
  aD : Apart (.slice x.A x.nA x.cA) (.slice x.D x.nD x.cD)
  bG : Apart (.slice x.B x.nB x.cB) (.slice x.G x.nG x.cG)
  bD : Apart (.slice x.B x.nB x.cB) (.slice x.D x.nD x.cD)
  gD : Apart (.slice x.G x.nG x.cG) (.slice x.D x.nD x.cD)
theorem SOwn.rd {base : Nat} {w : World} {x : SA} {s : St} (h : SOwn base w x s) : SRd w x s := by
  obtain ⟨a1, a2, a3, a4⟩ := own_rdG h.rows
  obtain ⟨b1, b2, b3, b4⟩ := own_rdG h.refs
  obtain ⟨c1, c2, c3, c4⟩ := own_rdG h.last
  obtain ⟨d1, d2, d3, d4⟩ := own_rdG h.gone
  obtain ⟨e1, e2, e3, e4⟩ := own_rdG h.dead
  exact ⟨a1, b1, c1, d1, e1, a2, b2, c2, d2, e2, a3, b3, c3, d3, e3, a4, b4, c4, d4, e4⟩
theorem SOwn.below {base : Nat} {w w' : World} {x : SA} {s : St} (h : SOwn base w x s) (hb : Below w.heap.size w w') : SOwn base w' x s :=
  { h with rows := h.rows.below hb, refs := h.refs.below hb, last := h.last.below hb, gone := h.gone.below hb, dead := h.dead.below hb }
def SA.ex (x : SA) : List Nat := exOf' (.slice x.R x.nR x.cR) ++ (exOf' (.slice x.A x.nA x.cA) ++ (exOf' (.slice x.B x.nB x.cB) ++ (exOf' (.slice x.G x.nG x.cG) ++ exOf' (.slice x.D x.nD x.cD))))
theorem SOwn.ex_in {base : Nat} {w : World} {x : SA} {s : St} (h : SOwn base w x s) : ∀ k ∈ x.ex, base ≤ k ∧ k < w.heap.size := fun k hk => by
  simp only [SA.ex, List.mem_append] at hk
  rcases hk with hk | hk | hk | hk | hk
  · exact own_in h.rows k hk
  · exact own_in h.refs k hk
  · exact own_in h.last k hk
  · exact own_in h.gone k hk
  · exact own_in h.dead k hk
theorem box_kp {ex : List Nat} {w W : World} {o : Obj} (hK : Kp ex (w.alloc o) W) (hex : ∀ k ∈ ex, k < w.heap.size) : ∀ j, W.cell? ⟨w.heap.size, j, none⟩ = (w.alloc o).cell? ⟨w.heap.size, j, none⟩ := fun j =>
  hK.cell (by simp) (fun hm => absurd (hex _ hm) (by omega))

set_option maxHeartbeats 4000000 in
theorem eqStore_true (w : World) (x y : SA) (s : St) (hx : SRd w x s) (hy : SRd w y s) :
    Calls Tryz.prog 15 #[x.v s.txg s.keep s.same, y.v s.txg s.keep s.same] w fun e w' => e = .returned (.bool true) ∧ Below w.heap.size w w' := by
  have HX := Lib.hid hx
  have HY := Lib.hid hy
  clear hx hy
  have E1 := Lib.hid (fun W (hB : Below w.heap.size w W) => (by have := eqStringS_true W x.R y.R x.cR y.cR s.rows (HX.out.rows.below hB) (HY.out.rows.below hB) (by rw [HX.out.lR]; exact HX.out.hR) (by rw [HY.out.lR]; exact HY.out.hR) HX.out.mR; rw [HX.out.lR] at this; have h2 := HY.out.lR; rw [HX.out.lR] at h2; rw [← h2]; exact this : Calls Tryz.prog 42 #[.slice x.R x.nR x.cR, .slice y.R y.nR y.cR] W fun e w' => e = .returned (.bool true) ∧ Below W.heap.size W w'))
  have E2 := Lib.hid (fun W (hB : Below w.heap.size w W) => (by have := eqSpace_true W x.A x.B y.A y.B x.cA x.cB y.cA y.cB s.refs s.last (HX.out.refs.below hB) (HX.out.last.below hB) (HY.out.refs.below hB) (HY.out.last.below hB) (by rw [HX.out.lA]; exact HX.out.hA) (by rw [HX.out.lB]; exact HX.out.hB) (by rw [HY.out.lA]; exact HY.out.hA) (by rw [HY.out.lB]; exact HY.out.hB) HX.out.mA HX.out.mB; have h2 := HY.out.lA; have h3 := HY.out.lB; rw [HX.out.lA] at h2; rw [HX.out.lB] at h3; rw [HX.out.lA, HX.out.lB] at this; rw [← h2, ← h3]; exact this : Calls Tryz.prog 43 #[.agg #[.slice x.A x.nA x.cA, .slice x.B x.nB x.cB], .agg #[.slice y.A y.nA y.cA, .slice y.B y.nB y.cB]] W fun e w' => e = .returned (.bool true) ∧ Below W.heap.size W w'))
  have E3 := Lib.hid (fun W (hB : Below w.heap.size w W) => (by have := eqPtrS_true W x.G y.G x.cG y.cG s.gone (HX.out.gone.below hB) (HY.out.gone.below hB) (by rw [HX.out.lG]; exact HX.out.hG) (by rw [HY.out.lG]; exact HY.out.hG) HX.out.mG; rw [HX.out.lG] at this; have h2 := HY.out.lG; rw [HX.out.lG] at h2; rw [← h2]; exact this : Calls Tryz.prog 18 #[.slice x.G x.nG x.cG, .slice y.G y.nG y.cG] W fun e w' => e = .returned (.bool true) ∧ Below W.heap.size W w'))
  have E4 := Lib.hid (fun W (hB : Below w.heap.size w W) => (by have := eqPtrS_true W x.D y.D x.cD y.cD s.dead (HX.out.dead.below hB) (HY.out.dead.below hB) (by rw [HX.out.lD]; exact HX.out.hD) (by rw [HY.out.lD]; exact HY.out.hD) HX.out.mD; rw [HX.out.lD] at this; have h2 := HY.out.lD; rw [HX.out.lD] at h2; rw [← h2]; exact this : Calls Tryz.prog 18 #[.slice x.D x.nD x.cD, .slice y.D y.nD y.cD] W fun e w' => e = .returned (.bool true) ∧ Below W.heap.size W w'))
  clear HX HY
  obtain ⟨R, nR, cR, A, nA, cA, B, nB, cB, G, nG, cG, D, nD, cD⟩ := x
  obtain ⟨R', nR', cR', A', nA', cA', B', nB', cB', G', nG', cG', D', nD', cD'⟩ := y
  obtain ⟨rows, refs, last, txg, gone, keep, dead, same⟩ := s
  unfold SA.v
  dsimp only at *
  have HBw := Lib.hid (below_alloc (below_alloc (Below.refl w.heap.size w) (.cells #[.slice R nR cR, .slice A nA cA, .slice B nB cB, .int .i64 txg, .slice G nG cG, .int .i64 keep, .slice D nD cD, .bool same] 38)) (.cells #[.slice R' nR' cR', .slice A' nA' cA', .slice B' nB' cB', .int .i64 txg, .slice G' nG' cG', .int .i64 keep, .slice D' nD' cD', .bool same] 38))
  go_enter Tryz.func15, Tryz.ntmps15
  go_wp2_with fail
  refine Calls.mono (E1.out _ HBw.out) ?_
  rintro e w1 ⟨rfl, hB⟩
  obtain ⟨c1, f1⟩ := bcell hB
  have hsz := hB.size
  simp only [World.size_alloc] at hsz
  have hx1 : w.heap.size < w1.heap.size := by omega
  have hy1 : w.heap.size + 1 < w1.heap.size := by omega
  have HB1 := Lib.hid (below_below HBw.out hB)
  clear hB hsz
  go_wp2_with fail
  refine Calls.mono (E2.out _ HB1.out) ?_
  rintro e w2 ⟨rfl, hB⟩
  obtain ⟨c2, f2⟩ := bcell hB
  have hsz := hB.size
  have hx2 : w.heap.size < w2.heap.size := by omega
  have hy2 : w.heap.size + 1 < w2.heap.size := by omega
  have HB2 := Lib.hid (below_below HB1.out hB)
  clear hB hsz
  go_wp2_with fail
  refine Calls.mono (E3.out _ HB2.out) ?_
  rintro e w3 ⟨rfl, hB⟩
  obtain ⟨c3, f3⟩ := bcell hB
  have hsz := hB.size
  have hx3 : w.heap.size < w3.heap.size := by omega
  have hy3 : w.heap.size + 1 < w3.heap.size := by omega
  have HB3 := Lib.hid (below_below HB2.out hB)
  clear hB hsz
  go_wp2_with fail
  refine Calls.mono (E4.out _ HB3.out) ?_
  rintro e w4 ⟨rfl, hB⟩
  obtain ⟨c4, f4⟩ := bcell hB
  have HB4 := Lib.hid (below_below HB3.out hB)
  clear hB
  go_wp2_with fail
  go_ret
  exact ⟨rfl, HB4.out⟩

end Go.Proofs.YtafadedacbjioaaGreatDoor

/- A pointer's text read out of a store: both texts. -/
namespace Go.Proofs.YtafadedacbjioaaGreatDoor
open Go.RowKit Go.Sort
set_option maxRecDepth 100000
set_option linter.unusedVariables false
set_option linter.unusedSimpArgs false

/-- The row of a pointer; whether the pointer leads to a text; the text. -/
def rowAt (rows : List ByteArray) (p : Pt) : ByteArray := rows.getD p.at_.toNat ⟨#[]⟩
def readB (rows : List ByteArray) (p : Pt) : Bool := holeB p || fitsB p (rowAt rows p)
def readT (rows : List ByteArray) (p : Pt) : ByteArray := if holeB p = true then ⟨#[]⟩ else if fitsB p (rowAt rows p) = true then rowAt rows p else ⟨#[]⟩

theorem ptr_row {p : Pt} (hb : ptrB p = true) (hh : holeB p = false) : 8 ≤ p.at_ ∧ p.at_ ≤ 63 := by
  simp only [ptrB, hh, Bool.false_or, Bool.and_eq_true] at hb
  exact inB_true hb.1
theorem str_at {w : World} {A : Option Addr} {xs : List ByteArray} {k : Nat} (h : RdT encS 1 w A xs) (hk : k < xs.length) :
    ∃ b off, A = some ⟨b, off, none⟩ ∧ b < w.heap.size ∧ w.cell? ⟨b, off + k, none⟩ = some (.string (xs.getD k ⟨#[]⟩)) := by
  obtain ⟨b, off, s, rfl, hb, he, c⟩ := h.str hk
  refine ⟨b, off, rfl, hb, ?_⟩
  rw [c]
  have : xs.getD k ⟨#[]⟩ = s := by simp [List.getD, he]
  rw [this]
theorem rowAt_size {rows : List ByteArray} (hz : ∀ x ∈ rows, x.size ≤ 9223372036854775807) (p : Pt) : (rowAt rows p).size ≤ 9223372036854775807 := by
  unfold rowAt
  rw [List.getD_eq_getElem?_getD]
  cases h : rows[p.at_.toNat]? with
  | none => show (0 : Nat) ≤ _; omega
  | some x => exact hz x (List.mem_of_getElem? h)

set_option maxHeartbeats 2000000 in
theorem read_any (w : World) (sb : Nat) (R : Option Addr) (nR cR : Nat) (v1 v2 v3 v4 v5 v6 v7 : Value) (rows : List ByteArray) (p : Pt) (hB : BoxAt w sb #[.slice R nR cR, v1, v2, v3, v4, v5, v6, v7] 38) (h : RdT encS 1 w R rows) (hl : rows.length = nR) (h64 : nR = 64) (hz : ∀ x ∈ rows, x.size ≤ 9223372036854775807) (hp : ptrB p = true) :
    Calls Tryz.prog 57 #[.pointer (some ⟨sb, 0, none⟩), p.v] w fun e w' => e = .returned (.tuple #[.string (readT rows p), .bool (readB rows p)]) ∧ Below w.heap.size w w' := by
  have HB := Lib.hid hB
  have hc := hB.cell
  have hlt := hB.lt
  have HR := Lib.hid h
  have HL := Lib.hid hl
  have HH := Lib.hid (ptrHole_any p)
  have HF := Lib.hid (fun w => ptrFits_any p (rowAt rows p) w (rowAt_size hz p))
  have HPI := Lib.hid (fun hh => ptr_row hp hh)
  have HBp := Lib.hid (below_alloc (Below.refl w.heap.size w) (.cells #[.int .i64 p.at_, .int .i64 p.birth, .int .i64 p.size, .int .i64 p.sum, .int .i64 p.level] 40))
  subst h64
  clear hB h hl hz hp
  unfold readT readB
  cases hho : holeB p
  · obtain ⟨hp1, hp2⟩ := HPI.out hho
    rw [hho] at HH
    have HX := Lib.hid (fun W (hW : Below w.heap.size w W) => str_at (k := p.at_.toNat) (HR.out.below hW) (by rw [HL.out]; omega))
    change Hid (∀ W, Below w.heap.size w W → ∃ b off, R = some ⟨b, off, none⟩ ∧ b < W.heap.size ∧ W.cell? ⟨b, off + p.at_.toNat, none⟩ = some (.string (rowAt rows p))) at HX
    have hp0 : (0 : Int) ≤ p.at_ := by omega
    have hp64 : p.at_ < 64 := by omega
    have HPV := Lib.hid (show p.v = .agg #[.int .i64 p.at_, .int .i64 p.birth, .int .i64 p.size, .int .i64 p.sum, .int .i64 p.level] from rfl)
    rw [HPV.out] at HH HF
    rw [HPV.out]
    obtain ⟨b0, off, rfl, _, _⟩ := HX.out w (Below.refl _ _)
    clear hho HPI
    cases hf : fitsB p (rowAt rows p)
    · rw [hf] at HF
      clear hf
      generalize rowAt rows p = row at *
      go_enter Tryz.func57, Tryz.ntmps57
      go_wp2_with fail
      refine Calls.mono (HH.out _) ?_
      rintro e w1 ⟨rfl, hB⟩
      have BX1 := Lib.hid ((box_new w #[.int .i64 p.at_, .int .i64 p.birth, .int .i64 p.size, .int .i64 p.sum, .int .i64 p.level] 40).below hB)
      have SB1 := Lib.hid ((HB.out.alloc _).below hB)
      have HB1 := Lib.hid (below_below HBp.out hB)
      have bx1 := BX1.out.cell
      have sb1 := SB1.out.cell
      have hl1 := BX1.out.lt
      have hs1 := SB1.out.lt
      obtain ⟨b, off', hA, hb1, hr1⟩ := HX.out w1 HB1.out
      cases hA
      clear hB hc
      go_wp2_with fail
      refine wp_quiet_b (by kernel_rfl) (by kernel_rfl) (fun hgrow => ?_)
      repeat (go_big_quiet_step ((go_at_call 78; exact quiet_b (HF.out _))))
      refine wpQuiet_nil ?_
      intro w2 hww2
      replace hww2 := below_of_regrown hww2
      clear hgrow
      have HB2 := Lib.hid (below_below HB1.out hww2)
      clear hww2
      go_wp2_with fail
      go_ret2
      exact ⟨rfl, HB2.out⟩
    · rw [hf] at HF
      clear hf
      generalize rowAt rows p = row at *
      go_enter Tryz.func57, Tryz.ntmps57
      go_wp2_with fail
      refine Calls.mono (HH.out _) ?_
      rintro e w1 ⟨rfl, hB⟩
      have BX1 := Lib.hid ((box_new w #[.int .i64 p.at_, .int .i64 p.birth, .int .i64 p.size, .int .i64 p.sum, .int .i64 p.level] 40).below hB)
      have SB1 := Lib.hid ((HB.out.alloc _).below hB)
      have HB1 := Lib.hid (below_below HBp.out hB)
      have bx1 := BX1.out.cell
      have sb1 := SB1.out.cell
      have hl1 := BX1.out.lt
      have hs1 := SB1.out.lt
      obtain ⟨b, off', hA, hb1, hr1⟩ := HX.out w1 HB1.out
      cases hA
      clear hB hc
      go_wp2_with fail
      refine wp_quiet_b (by kernel_rfl) (by kernel_rfl) (fun hgrow => ?_)
      repeat (go_big_quiet_step ((go_at_call 78; exact quiet_b (HF.out _))))
      refine wpQuiet_nil ?_
      intro w2 hww2
      replace hww2 := below_of_regrown hww2
      clear hgrow
      have BX2 := Lib.hid (BX1.out.below hww2)
      have SB2 := Lib.hid (SB1.out.below hww2)
      have HB2 := Lib.hid (below_below HB1.out hww2)
      have bx2 := BX2.out.cell
      have sb2 := SB2.out.cell
      have hl2 := BX2.out.lt
      have hs2 := SB2.out.lt
      obtain ⟨b, off', hA, hb2, hr2⟩ := HX.out w2 HB2.out
      cases hA
      clear hww2 bx1 sb1 hr1
      go_wp2_with fail
      refine wp_quiet_b (by kernel_rfl) (by kernel_rfl) (fun hgrow => ?_)
      repeat (go_big_quiet_step (fail))
      refine wpQuiet_nil ?_
      intro w3 hww3
      replace hww3 := below_of_regrown hww3
      clear hgrow
      have HB3 := Lib.hid (below_below HB2.out hww3)
      clear hww3
      go_wp2_with fail
      go_ret2
      exact ⟨rfl, HB3.out⟩
  · rw [hho] at HH
    clear hho HPI HF HR HL
    have HPV := Lib.hid (show p.v = .agg #[.int .i64 p.at_, .int .i64 p.birth, .int .i64 p.size, .int .i64 p.sum, .int .i64 p.level] from rfl)
    rw [HPV.out] at HH
    rw [HPV.out]
    go_enter Tryz.func57, Tryz.ntmps57
    go_wp2_with fail
    refine Calls.mono (HH.out _) ?_
    rintro e w1 ⟨rfl, hB⟩
    have HB1 := Lib.hid (below_below HBp.out hB)
    clear hB
    go_wp2_with fail
    go_ret2
    exact ⟨rfl, HB1.out⟩

set_option maxHeartbeats 2000000 in
theorem l7Read_any (w : World) (R : Option Addr) (nR cR : Nat) (A B G D : Option Addr) (nA cA nB cB nG cG nD cD : Nat) (t k : Int) (sm : Bool) (rows : List ByteArray) (p : Pt) (h : RdT encS 1 w R rows) (hl : rows.length = nR) (h64 : nR = 64) (hz : ∀ x ∈ rows, x.size ≤ 9223372036854775807) (hp : ptrB p = true) :
    Calls Tryz.prog 76 #[.agg #[.slice R nR cR, .slice A nA cA, .slice B nB cB, .int .i64 t, .slice G nG cG, .int .i64 k, .slice D nD cD, .bool sm], p.v] w fun e w' => e = .returned (.tuple #[.string (readT rows p), .bool (readB rows p)]) ∧ Below w.heap.size w w' := by
  have HR := Lib.hid h
  have HL := Lib.hid hl
  have HH := Lib.hid (specPtrHole_any p)
  have HF := Lib.hid (fun w => specPtrFits_any p (rowAt rows p) w (rowAt_size hz p))
  have HPI := Lib.hid (fun hh => ptr_row hp hh)
  have HBp := Lib.hid (below_alloc (below_alloc (Below.refl w.heap.size w) (.cells #[.slice R nR cR, .slice A nA cA, .slice B nB cB, .int .i64 t, .slice G nG cG, .int .i64 k, .slice D nD cD, .bool sm] 38)) (.cells #[.int .i64 p.at_, .int .i64 p.birth, .int .i64 p.size, .int .i64 p.sum, .int .i64 p.level] 40))
  have S0 := Lib.hid ((box_new w #[.slice R nR cR, .slice A nA cA, .slice B nB cB, .int .i64 t, .slice G nG cG, .int .i64 k, .slice D nD cD, .bool sm] 38).alloc (.cells #[.int .i64 p.at_, .int .i64 p.birth, .int .i64 p.size, .int .i64 p.sum, .int .i64 p.level] 40))
  have P0 := Lib.hid (box_new (w.alloc (.cells #[.slice R nR cR, .slice A nA cA, .slice B nB cB, .int .i64 t, .slice G nG cG, .int .i64 k, .slice D nD cD, .bool sm] 38)) #[.int .i64 p.at_, .int .i64 p.birth, .int .i64 p.size, .int .i64 p.sum, .int .i64 p.level] 40)
  rw [World.size_alloc] at P0
  subst h64
  clear h hl hz hp
  unfold readT readB
  have HPV := Lib.hid (show p.v = .agg #[.int .i64 p.at_, .int .i64 p.birth, .int .i64 p.size, .int .i64 p.sum, .int .i64 p.level] from rfl)
  rw [HPV.out] at HH HF
  rw [HPV.out]
  cases hho : holeB p
  · obtain ⟨hp1, hp2⟩ := HPI.out hho
    rw [hho] at HH
    have HX := Lib.hid (fun W (hW : Below w.heap.size w W) => str_at (k := p.at_.toNat) (HR.out.below hW) (by rw [HL.out]; omega))
    change Hid (∀ W, Below w.heap.size w W → ∃ b off, R = some ⟨b, off, none⟩ ∧ b < W.heap.size ∧ W.cell? ⟨b, off + p.at_.toNat, none⟩ = some (.string (rowAt rows p))) at HX
    have hp0 : (0 : Int) ≤ p.at_ := by omega
    have hp64 : p.at_ < 64 := by omega
    obtain ⟨b0, off, rfl, _, _⟩ := HX.out w (Below.refl _ _)
    clear hho HPI
    cases hf : fitsB p (rowAt rows p)
    all_goals
      rw [hf] at HF
      clear hf
      generalize rowAt rows p = row at *
      go_enter Tryz.func76, Tryz.ntmps76
      go_wp2_with fail
      refine Calls.mono (HH.out _) ?_
      rintro e w1 ⟨rfl, hB⟩
      have BX1 := Lib.hid (P0.out.below hB)
      have SB1 := Lib.hid (S0.out.below hB)
      have HB1 := Lib.hid (below_below HBp.out hB)
      have bx1 := BX1.out.cell
      have sb1 := SB1.out.cell
      have hl1 := BX1.out.lt
      have hs1 := SB1.out.lt
      obtain ⟨b, off', hA, hb1, hr1⟩ := HX.out w1 HB1.out
      cases hA
      clear hB
      go_wp2_with fail
      refine wp_quiet_b (by kernel_rfl) (by kernel_rfl) (fun hgrow => ?_)
      repeat (go_big_quiet_step ((go_at_call 88; exact quiet_b (HF.out _))))
      refine wpQuiet_nil ?_
      intro w2 hww2
      replace hww2 := below_of_regrown hww2
      clear hgrow
      have BX2 := Lib.hid (BX1.out.below hww2)
      have SB2 := Lib.hid (SB1.out.below hww2)
      have HB2 := Lib.hid (below_below HB1.out hww2)
      have bx2 := BX2.out.cell
      have sb2 := SB2.out.cell
      have hl2 := BX2.out.lt
      have hs2 := SB2.out.lt
      obtain ⟨b, off', hA, hb2, hr2⟩ := HX.out w2 HB2.out
      cases hA
      clear hww2 bx1 sb1 hr1
      go_wp2_with fail
      go_ret2
      exact ⟨rfl, HB2.out⟩
  · rw [hho] at HH
    clear hho HPI HF HR HL
    go_enter Tryz.func76, Tryz.ntmps76
    go_wp2_with fail
    refine Calls.mono (HH.out _) ?_
    rintro e w1 ⟨rfl, hB⟩
    have HB1 := Lib.hid (below_below HBp.out hB)
    clear hB
    go_wp2_with fail
    go_ret2
    exact ⟨rfl, HB1.out⟩

end Go.Proofs.YtafadedacbjioaaGreatDoor

/- The pointers of a tree's places, in plain Lean. -/
namespace Go.Proofs.YtafadedacbjioaaGreatDoor
open Go.RowKit
set_option linter.unusedVariables false
set_option linter.unusedSimpArgs false

def holes4 : List Pt := [hole, hole, hole, hole]
/-- The pointers below a pointer of a level. -/
def BelG (rows : List ByteArray) (top lv : Int) (p : Pt) (l : List Pt) (b : Bool) : Prop :=
  (holeB p = true ∧ b = true ∧ l = holes4) ∨
  (holeB p = false ∧ b = true ∧ readB rows p = true ∧ p.level = lv ∧ p.birth ≤ top ∧ FanOk (readT rows p) l ∧ ∀ k ∈ l, k.birth ≤ p.birth) ∨
  (holeB p = false ∧ b = false ∧ l = [] ∧ ¬ (readB rows p = true ∧ p.level = lv ∧ p.birth ≤ top ∧ ∃ m, FanOk (readT rows p) m ∧ ∀ k ∈ m, k.birth ≤ p.birth))
theorem belG_one {rows : List ByteArray} {top lv : Int} {p : Pt} {l l' : List Pt} {b b' : Bool} (h : BelG rows top lv p l b) (h' : BelG rows top lv p l' b') : b = b' ∧ l = l' := by
  rcases h with ⟨h1, rfl, rfl⟩ | ⟨h1, rfl, h2, h3, h6, h4, h5⟩ | ⟨h1, rfl, rfl, h2⟩
  · rcases h' with ⟨_, rfl, rfl⟩ | ⟨h1', _⟩ | ⟨h1', _⟩
    · exact ⟨rfl, rfl⟩
    · rw [h1] at h1'; cases h1'
    · rw [h1] at h1'; cases h1'
  · rcases h' with ⟨h1', _⟩ | ⟨_, rfl, _, _, _, h4', _⟩ | ⟨_, rfl, rfl, h2'⟩
    · rw [h1] at h1'; cases h1'
    · exact ⟨rfl, fanOk_one h4 h4'⟩
    · exact absurd ⟨h2, h3, h6, l, h4, h5⟩ h2'
  · rcases h' with ⟨h1', _⟩ | ⟨_, rfl, h2', h3', h6', h4', h5'⟩ | ⟨_, rfl, rfl, _⟩
    · rw [h1] at h1'; cases h1'
    · exact absurd ⟨h2', h3', h6', l', h4', h5'⟩ h2
    · exact ⟨rfl, rfl⟩
/-- What is known of a list of pointers on the way down. -/
def LsB (top : Int) (l : List Pt) : Prop := ∀ p ∈ l, ptrB p = true ∧ p.birth ≤ top
theorem lsB_app {top : Int} {l m : List Pt} (h : LsB top l) (h' : LsB top m) : LsB top (l ++ m) := fun p hp => by
  rcases List.mem_append.1 hp with hp | hp
  · exact h p hp
  · exact h' p hp
theorem belG_len {rows : List ByteArray} {top lv : Int} {p : Pt} {l : List Pt} (h : BelG rows top lv p l true) : l.length = 4 := by
  rcases h with ⟨_, _, rfl⟩ | ⟨_, _, _, _, _, h4, _⟩ | ⟨_, h, _⟩
  · rfl
  · exact h4.1
  · cases h
theorem belG_B {rows : List ByteArray} {lv top : Int} {p : Pt} {l : List Pt} (ht : 0 ≤ top) (h : BelG rows top lv p l true) : LsB top l := by
  rcases h with ⟨_, _, rfl⟩ | ⟨_, _, _, _, hp, h4, h5⟩ | ⟨_, h, _⟩
  · intro q hq
    have : q = hole := by simp [holes4] at hq; exact hq
    rw [this]
    exact ⟨rfl, ht⟩
  · intro q hq
    exact ⟨h4.2.1 q hq, Int.le_trans (h5 q hq) hp⟩
  · cases h
/-- A list of pointers, each with those below it in its place. -/
def ExpOk (rows : List ByteArray) (top lv : Int) : List Pt → List Pt → Prop
  | [], out => out = []
  | p :: r, out => ∃ l o, BelG rows top lv p l true ∧ ExpOk rows top lv r o ∧ out = l ++ o
theorem expOk_one {rows : List ByteArray} {top lv : Int} : ∀ {xs out out' : List Pt}, ExpOk rows top lv xs out → ExpOk rows top lv xs out' → out = out'
  | [], _, _, h, h' => h.trans h'.symm
  | p :: r, _, _, ⟨l, o, h1, h2, rfl⟩, ⟨l', o', h1', h2', rfl⟩ => by rw [(belG_one h1 h1').2, expOk_one h2 h2']
theorem expOk_snoc {rows : List ByteArray} {top lv : Int} {p : Pt} {l : List Pt} (hp : BelG rows top lv p l true) : ∀ {xs out : List Pt}, ExpOk rows top lv xs out → ExpOk rows top lv (xs ++ [p]) (out ++ l)
  | [], out, h => by
    rw [show out = [] from h]
    exact ⟨l, [], hp, rfl, by simp⟩
  | q :: r, _, ⟨m, o, h1, h2, rfl⟩ => ⟨m, o ++ l, h1, expOk_snoc hp h2, by rw [List.append_assoc]⟩
theorem expOk_mem {rows : List ByteArray} {top lv : Int} {p : Pt} : ∀ {xs out : List Pt}, ExpOk rows top lv xs out → p ∈ xs → ∃ l, BelG rows top lv p l true
  | [], _, _, h => by simp at h
  | q :: r, _, ⟨m, o, h1, h2, rfl⟩, h => by
    rcases List.mem_cons.1 h with rfl | h
    · exact ⟨m, h1⟩
    · exact expOk_mem h2 h
theorem expOk_take {rows : List ByteArray} {top lv : Int} {xs out : List Pt} {k : Nat} {p : Pt} {l : List Pt} (h : ExpOk rows top lv (xs.take k) out) (hk : xs[k]? = some p) (hp : BelG rows top lv p l true) : ExpOk rows top lv (xs.take (k + 1)) (out ++ l) := by
  rw [List.take_add_one, hk]
  exact expOk_snoc hp h
/-- So many levels down. -/
def LvOk (rows : List ByteArray) (top : Int) : Nat → List Pt → List Pt → Prop
  | 0, xs, out => out = xs
  | d + 1, xs, out => ∃ m, ExpOk rows top (d + 1 : Nat) xs m ∧ LvOk rows top d m out
theorem lvOk_one {rows : List ByteArray} {top : Int} : ∀ {d : Nat} {xs out out' : List Pt}, LvOk rows top d xs out → LvOk rows top d xs out' → out = out'
  | 0, _, _, _, h, h' => h.trans h'.symm
  | d + 1, _, _, _, ⟨m, h1, h2⟩, ⟨m', h1', h2'⟩ => by
    rw [expOk_one h1' h1] at h2'
    exact lvOk_one h2 h2'
theorem lvOk_step {rows : List ByteArray} {top : Int} {d : Nat} {xs m out : List Pt} (h : ExpOk rows top (d + 1 : Nat) xs m) : LvOk rows top (d + 1) xs out ↔ LvOk rows top d m out :=
  ⟨fun ⟨m', h1, h2⟩ => by rw [expOk_one h h1]; exact h2, fun h2 => ⟨m, h, h2⟩⟩
theorem lvOk_bad {rows : List ByteArray} {top : Int} {d : Nat} {xs out l : List Pt} {p : Pt} (hp : p ∈ xs) (h : BelG rows top (d + 1 : Nat) p l false) : ¬ LvOk rows top (d + 1) xs out := fun ⟨m, h1, _⟩ => by
  obtain ⟨l', h2⟩ := expOk_mem h1 hp
  have := (belG_one h h2).1
  cases this
theorem expOk_B {rows : List ByteArray} {top lv : Int} (ht : 0 ≤ top) : ∀ {xs out : List Pt}, ExpOk rows top lv xs out → LsB top out
  | [], out, h => by
    rw [show out = [] from h]
    intro p hp
    simp at hp
  | p :: r, _, ⟨l, o, h1, h2, rfl⟩ => lsB_app (belG_B ht h1) (expOk_B ht h2)
theorem lvOk_B {rows : List ByteArray} {top : Int} (ht : 0 ≤ top) : ∀ {d : Nat} {xs out : List Pt}, LsB top xs → LvOk rows top d xs out → LsB top out
  | 0, _, _, hx, h => by rw [show _ = _ from h]; exact hx
  | d + 1, _, _, _, ⟨m, h1, h2⟩ => lvOk_B ht (expOk_B ht h1) h2
/-- A root that is expanded and is no hole is not too young. -/
theorem lvOk_root {rows : List ByteArray} {top : Int} {d : Nat} {root : Pt} {out : List Pt} (hh : holeB root = false) (h : LvOk rows top (d + 1) [root] out) : root.birth ≤ top := by
  obtain ⟨m, ⟨l, o, h1, _, _⟩, _⟩ := h
  rcases h1 with ⟨h1, _⟩ | ⟨_, _, _, _, h1, _⟩ | ⟨_, h1, _⟩
  · rw [hh] at h1; cases h1
  · exact h1
  · cases h1
/-- What all places of a tree may be. -/
def LeafOk (rows : List ByteArray) (many : Int) (i : Nat) (p : Pt) : Bool := holeB p || (readB rows p && (p.level == 0 && decide ((i : Int) < many)))
structure Tr where
  root : Pt
  depth : Int
  many : Int
def Tr.v (t : Tr) : Value := .agg #[.int .i64 t.root.at_, .int .i64 t.root.birth, .int .i64 t.root.size, .int .i64 t.root.sum, .int .i64 t.root.level, .int .i64 t.depth, .int .i64 t.many]
def headT (txg : Int) (t : Tr) : Bool := inB t.many 0 16 && (t.depth == depthB t.many && (ptrB t.root && decide (t.root.birth ≤ txg)))
/-- The pointers at the bottom of a tree that is valid in a store's rows. -/
def TrOk (rows : List ByteArray) (txg : Int) (t : Tr) (out : List Pt) : Prop :=
  headT txg t = true ∧ LvOk rows txg t.depth.toNat [t.root] out ∧ ∀ i p, out[i]? = some p → LeafOk rows t.many i p = true
theorem trOk_one {rows : List ByteArray} {txg : Int} {t : Tr} {out out' : List Pt} (h : TrOk rows txg t out) (h' : TrOk rows txg t out') : out = out' := lvOk_one h.2.1 h'.2.1
/-- The pointers of all places. -/
def LvsG (rows : List ByteArray) (txg : Int) (t : Tr) (l : List Pt) (b : Bool) : Prop :=
  (b = true ∧ ∃ out, TrOk rows txg t out ∧ l = out.take t.many.toNat) ∨ (b = false ∧ l = [] ∧ ∀ out, ¬ TrOk rows txg t out)
theorem lvsG_one {rows : List ByteArray} {txg : Int} {t : Tr} {l l' : List Pt} {b b' : Bool} (h : LvsG rows txg t l b) (h' : LvsG rows txg t l' b') : b = b' ∧ l = l' := by
  rcases h with ⟨rfl, o, h1, rfl⟩ | ⟨rfl, rfl, h1⟩
  · rcases h' with ⟨rfl, o', h1', rfl⟩ | ⟨rfl, rfl, h1'⟩
    · rw [trOk_one h1 h1']
      exact ⟨rfl, rfl⟩
    · exact absurd h1 (h1' o)
  · rcases h' with ⟨rfl, o', h1', rfl⟩ | ⟨rfl, rfl, h1'⟩
    · exact absurd h1' (h1 o')
    · exact ⟨rfl, rfl⟩

end Go.Proofs.YtafadedacbjioaaGreatDoor

/- What a list of pointers makes of space, in plain Lean. -/
namespace Go.Proofs.YtafadedacbjioaaGreatDoor
open Go.RowKit
set_option linter.unusedVariables false

def dupB (pre : List Pt) (p : Pt) : Bool := pre.any fun q => q.at_ == p.at_ && q.birth == p.birth
theorem dupB_iff {pre : List Pt} {p : Pt} : dupB pre p = true ↔ ∃ q ∈ pre, q.at_ = p.at_ ∧ q.birth = p.birth := by simp [dupB]
def addR (rs : List Int) (p : Pt) : List Int := rs.set p.at_.toNat (rs.getD p.at_.toNat 0 + 1)
def addB' (ls : List Int) (p : Pt) : List Int := ls.set p.at_.toNat (max (ls.getD p.at_.toNat 0) p.birth)
def spFrom : List Pt → List Pt → List Int → List Int → Option (List Int × List Int)
  | _, [], rs, ls => some (rs, ls)
  | pre, p :: r, rs, ls => if ptrB p = true then (if holeB p = true then spFrom (pre ++ [p]) r rs ls else if dupB pre p = true then none else spFrom (pre ++ [p]) r (addR rs p) (addB' ls p)) else none
def spOf (ps : List Pt) : Option (List Int × List Int) := spFrom [] ps (List.replicate 64 0) (List.replicate 64 0)

/-- How far the counting has come. -/
def SpAt (ps : List Pt) (k : Nat) (rs ls : List Int) : Prop := spOf ps = spFrom (ps.take k) (ps.drop k) rs ls ∧ rs.length = 64 ∧ ls.length = 64 ∧ (∀ i, 0 ≤ rs.getD i 0 ∧ rs.getD i 0 ≤ k) ∧ ∀ i, 0 ≤ ls.getD i 0 ∧ ls.getD i 0 ≤ 900
theorem spAt_start (ps : List Pt) : SpAt ps 0 (List.replicate 64 0) (List.replicate 64 0) := by
  refine ⟨by simp [spOf], by simp, by simp, fun i => ?_, fun i => ?_⟩
  · have : (List.replicate 64 (0 : Int)).getD i 0 = 0 := by
      rw [List.getD_eq_getElem?_getD, List.getElem?_replicate]; split <;> rfl
    rw [this]; omega
  · have : (List.replicate 64 (0 : Int)).getD i 0 = 0 := by
      rw [List.getD_eq_getElem?_getD, List.getElem?_replicate]; split <;> rfl
    rw [this]; omega
section
variable {ps : List Pt} {k : Nat} {rs ls : List Int} {p : Pt}
theorem sp_step (h : SpAt ps k rs ls) (hp : ps[k]? = some p) : k < ps.length ∧ ps.take (k + 1) = ps.take k ++ [p] ∧ ps.drop k = p :: ps.drop (k + 1) := by
  have hk : k < ps.length := by
    rcases Nat.lt_or_ge k ps.length with h' | h'
    · exact h'
    · rw [List.getElem?_eq_none h'] at hp; cases hp
  have e : ps[k] = p := by rw [List.getElem?_eq_getElem hk] at hp; exact Option.some.inj hp
  exact ⟨hk, by rw [List.take_add_one, hp]; rfl, by rw [List.drop_eq_getElem_cons hk, e]⟩
theorem sp_bad (h : SpAt ps k rs ls) (hp : ps[k]? = some p) (hb : ptrB p = false) : spOf ps = none := by
  obtain ⟨_, _, d⟩ := sp_step h hp
  rw [h.1, d, spFrom, hb]; rfl
theorem sp_hole (h : SpAt ps k rs ls) (hp : ps[k]? = some p) (hb : ptrB p = true) (hh : holeB p = true) : SpAt ps (k + 1) rs ls := by
  obtain ⟨_, t, d⟩ := sp_step h hp
  refine ⟨?_, h.2.1, h.2.2.1, fun i => by have := h.2.2.2.1 i; omega, h.2.2.2.2⟩
  rw [h.1, d, spFrom, hb, hh, t]; rfl
theorem sp_dup (h : SpAt ps k rs ls) (hp : ps[k]? = some p) (hb : ptrB p = true) (hh : holeB p = false) (hd : dupB (ps.take k) p = true) : spOf ps = none := by
  obtain ⟨_, t, d⟩ := sp_step h hp
  rw [h.1, d, spFrom, hb, hh, hd]; rfl
theorem ptr_in (hb : ptrB p = true) (hh : holeB p = false) : 8 ≤ p.at_ ∧ p.at_ ≤ 63 ∧ 1 ≤ p.birth ∧ p.birth ≤ 900 := by
  simp only [ptrB, hh, Bool.false_or, Bool.and_eq_true] at hb
  have h1 := inB_true hb.1
  have h2 := inB_true hb.2.1
  omega
theorem getD_set (l : List Int) (i j : Nat) (v : Int) (hi : i < l.length) : (l.set i v).getD j 0 = if j = i then v else l.getD j 0 := by
  simp only [List.getD_eq_getElem?_getD]
  by_cases h : j = i
  · subst h
    rw [List.getElem?_set_self hi, if_pos rfl]; rfl
  · rw [List.getElem?_set_ne (by omega), if_neg h]
theorem sp_new (h : SpAt ps k rs ls) (hp : ps[k]? = some p) (hb : ptrB p = true) (hh : holeB p = false) (hd : dupB (ps.take k) p = false) : SpAt ps (k + 1) (addR rs p) (addB' ls p) := by
  obtain ⟨_, t, d⟩ := sp_step h hp
  obtain ⟨h1, h2, h3, h4⟩ := ptr_in hb hh
  refine ⟨?_, by rw [addR, List.length_set]; exact h.2.1, by rw [addB', List.length_set]; exact h.2.2.1, fun i => ?_, fun i => ?_⟩
  · rw [h.1, d, spFrom, hb, hh, hd, t]; rfl
  · rw [addR, getD_set _ _ _ _ (by rw [h.2.1]; omega)]
    have a := h.2.2.2.1 i
    have b := h.2.2.2.1 p.at_.toNat
    split <;> omega
  · rw [addB', getD_set _ _ _ _ (by rw [h.2.2.1]; omega)]
    have a := h.2.2.2.2 i
    have b := h.2.2.2.2 p.at_.toNat
    split <;> omega
theorem sp_end (h : SpAt ps ps.length rs ls) : spOf ps = some (rs, ls) := by
  rw [h.1, List.drop_length]
  cases ps.take ps.length <;> rfl

/-- The pairs that were met. -/
def seenP (ps : List Pt) (k : Nat) (a b : Int) : Prop := ∃ q ∈ ps.take k, holeB q = false ∧ q.at_ = a ∧ q.birth = b
theorem seen_zero (ps : List Pt) (a b : Int) : seenP ps 0 a b ↔ False := by simp [seenP]
theorem seen_hole (h : SpAt ps k rs ls) (hp : ps[k]? = some p) (hh : holeB p = true) (a b : Int) : seenP ps k a b ↔ seenP ps (k + 1) a b := by
  obtain ⟨_, t, _⟩ := sp_step h hp
  simp only [seenP, t, List.mem_append, List.mem_singleton]
  constructor
  · rintro ⟨q, hq, r⟩
    exact ⟨q, .inl hq, r⟩
  · rintro ⟨q, hq | rfl, r⟩
    · exact ⟨q, hq, r⟩
    · rw [hh] at r; cases r.1
theorem seen_new (h : SpAt ps k rs ls) (hp : ps[k]? = some p) (hh : holeB p = false) (a b : Int) : (seenP ps k a b ∨ (a = p.at_ ∧ b = p.birth)) ↔ seenP ps (k + 1) a b := by
  obtain ⟨_, t, _⟩ := sp_step h hp
  simp only [seenP, t, List.mem_append, List.mem_singleton]
  constructor
  · rintro (⟨q, hq, r⟩ | ⟨rfl, rfl⟩)
    · exact ⟨q, .inl hq, r⟩
    · exact ⟨p, .inr rfl, hh, rfl, rfl⟩
  · rintro ⟨q, hq | rfl, r⟩
    · exact .inl ⟨q, hq, r⟩
    · exact .inr ⟨r.2.1.symm, r.2.2.symm⟩
theorem seen_dup (hb : ptrB p = true) (hh : holeB p = false) : seenP ps k p.at_ p.birth ↔ dupB (ps.take k) p = true := by
  obtain ⟨h1, _⟩ := ptr_in hb hh
  rw [dupB_iff]
  constructor
  · rintro ⟨q, hq, _, r⟩
    exact ⟨q, hq, r⟩
  · rintro ⟨q, hq, r1, r2⟩
    refine ⟨q, hq, ?_, r1, r2⟩
    cases hq : holeB q
    · rfl
    · simp only [holeB, Bool.and_eq_true, beq_iff_eq] at hq
      omega
end

end Go.Proofs.YtafadedacbjioaaGreatDoor

/- A store's validity in plain Lean; the greatest of a list. -/
namespace Go.Proofs.YtafadedacbjioaaGreatDoor
open Go.RowKit
set_option maxRecDepth 100000
set_option linter.unusedVariables false
set_option linter.unusedSimpArgs false

/-- The greatest. -/
def maxL : List Int → Int
  | [] => 0
  | x :: r => r.foldl max x
theorem foldl_max_le (r : List Int) (x t : Int) : r.foldl max x ≤ t ↔ x ≤ t ∧ ∀ y ∈ r, y ≤ t := by
  induction r generalizing x with
  | nil => simp
  | cons y r ih =>
    rw [List.foldl_cons, ih]
    simp only [List.mem_cons, forall_eq_or_imp]
    constructor
    · rintro ⟨h, h2⟩; exact ⟨by omega, by omega, h2⟩
    · rintro ⟨h, h1, h2⟩; exact ⟨by omega, h2⟩
theorem maxL_le {xs : List Int} (h : xs ≠ []) {t : Int} : maxL xs ≤ t ↔ ∀ y ∈ xs, y ≤ t := by
  cases xs with
  | nil => exact absurd rfl h
  | cons x r =>
    show r.foldl max x ≤ t ↔ _
    rw [foldl_max_le]
    simp
theorem maxL_push {xs : List Int} (h : xs ≠ []) (y : Int) : maxL (xs ++ [y]) = max (maxL xs) y := by
  cases xs with
  | nil => exact absurd rfl h
  | cons x r =>
    show (r ++ [y]).foldl max x = max (r.foldl max x) y
    rw [List.foldl_append]; rfl
theorem maxL_take {xs : List Int} {k : Nat} (h1 : 1 ≤ k) (hk : k < xs.length) : maxL (xs.take (k + 1)) = max (maxL (xs.take k)) (xs.getD k 0) := by
  have e : xs.take (k + 1) = xs.take k ++ [xs.getD k 0] := by
    rw [List.take_add_one, List.getElem?_eq_getElem hk, List.getD_eq_getElem?_getD, List.getElem?_eq_getElem hk]; rfl
  rw [e, maxL_push]
  intro h0
  have hl : (xs.take k).length = k := by rw [List.length_take]; omega
  rw [h0] at hl
  have hl' : 0 = k := hl
  omega
theorem maxL_one {xs : List Int} (h : 0 < xs.length) : maxL (xs.take 1) = xs.getD 0 0 := by
  cases xs with
  | nil => simp at h
  | cons x r => rfl

set_option maxHeartbeats 1000000 in
theorem slicesMax_any (w : World) (A : Option Addr) (c : Nat) (xs : List Int) (h : RdT encN 1 w A xs) (h1 : 0 < xs.length) (hc : xs.length ≤ c) (hm : c ≤ 9223372036854775807) :
    Calls Tryz.prog 67 #[.slice A xs.length c] w fun e w' => e = .returned (.int .i64 (maxL xs)) ∧ w = w' := by
  have HR := Lib.hid h
  have HE := Lib.hid (show maxL (xs.take xs.length) = maxL xs by rw [List.take_length])
  have H1 := Lib.hid (maxL_one h1)
  have HT := Lib.hid (fun k a b => maxL_take (xs := xs) (k := k) a b)
  obtain ⟨b0, off0, rfl, hb0, c0⟩ := num_at (k := 0) h h1
  rw [Nat.add_zero] at c0
  generalize maxL xs = r at *
  generalize hx0 : xs.getD 0 0 = x0 at *
  clear h hx0
  go_enter Tryz.func67, Tryz.ntmps67
  go_wp2_with fail
  go_loop [3, 4] (fun x i => ∃ (k : Nat) (a : Int), 1 ≤ k ∧ k ≤ xs.length ∧ i = .int .i64 k ∧ x = .int .i64 a ∧ Hid (maxL (xs.take k) = a)) (fun _ i => xs.length - (intOf i).toNat)
  case atStart => exact ⟨1, x0, Nat.le_refl _, h1, rfl, rfl, H1⟩
  case round =>
    clear c0 H1
    obtain ⟨k, a, hk1, hk, rfl, rfl, HS⟩ := hrel
    by_cases hlt : k < xs.length
    · obtain ⟨b, off, hq, hb, c1⟩ := num_at (k := k) HR.out hlt
      cases hq
      have HS2 := Lib.hid ((HT.out k hk1 hlt).trans (by rw [HS.out]))
      generalize xs.getD k 0 = y at *
      clear HS HT HE
      go_wp2_with fail
      exact ⟨⟨k + 1, _, by omega, by omega, by go_num, rfl, HS2⟩, by simp [intOf]; omega⟩
    · obtain rfl : k = xs.length := by omega
      have HZ := Lib.hid (HE.out.symm.trans HS.out)
      clear HS HT HE
      go_wp2_with fail
      go_ret
      exact ⟨ret_int HZ.out.symm, rfl⟩

/-- A store's validity. -/
def headB (s : St) : Bool := decide (s.rows.length = 64) && (spaceB s.refs s.last && (inB s.txg 1 900 && inB s.keep 0 (s.txg - 1)))
def rowB (s : St) (i : Nat) : Bool := decide ((s.rows.getD i ⟨#[]⟩).size ≤ 128) && ((((s.rows.getD i ⟨#[]⟩).toList == (⟨#[]⟩ : ByteArray).toList) == (s.refs.getD i 0 == 0)) && decide (s.last.getD i 0 ≤ s.txg))
def goneB (top : Int) (p : Pt) : Bool := ptrB p && (!holeB p && decide (p.birth ≤ top))
def cnt (l : List Pt) (j : Nat) : Int := (((l.filter fun p => p.at_ == (j : Int)).length : Nat) : Int)
def owedB (s : St) (l : List Pt) : Bool := (List.range 64).all fun j => decide (cnt l j ≤ s.refs.getD j 0)
def storeB (s : St) : Bool := headB s && ((List.range 64).all (rowB s) && (s.gone.all (goneB (s.txg - 1)) && (s.dead.all (goneB s.keep) && owedB s (s.gone ++ s.dead))))

theorem cnt_push (l : List Pt) (p : Pt) (j : Nat) : cnt (l ++ [p]) j = cnt l j + if p.at_ = (j : Int) then 1 else 0 := by
  unfold cnt
  rw [List.filter_append, List.length_append]
  by_cases h : p.at_ = (j : Int)
  · rw [if_pos h]
    simp [List.filter_cons, h]
  · rw [if_neg h]
    simp [List.filter_cons, h]
theorem cnt_app (l m : List Pt) (j : Nat) : cnt l j ≤ cnt (l ++ m) j := by
  unfold cnt
  rw [List.filter_append, List.length_append]
  omega
theorem cnt_nil (j : Nat) : cnt [] j = 0 := rfl
theorem cnt_nn (l : List Pt) (j : Nat) : 0 ≤ cnt l j := Int.natCast_nonneg _
theorem cnt_le (l : List Pt) (j : Nat) : cnt l j ≤ l.length := by
  unfold cnt
  have := List.length_filter_le (fun p : Pt => p.at_ == (j : Int)) l
  omega
theorem cnt_mem {l : List Pt} {p : Pt} (h : p ∈ l) (h0 : 0 ≤ p.at_) : 1 ≤ cnt l p.at_.toNat := by
  unfold cnt
  have : p ∈ l.filter fun q => q.at_ == ((p.at_.toNat : Nat) : Int) := by
    rw [List.mem_filter]
    refine ⟨h, ?_⟩
    simp only [beq_iff_eq]
    omega
  have := List.length_pos_of_mem this
  omega
/-- The counts, as a row. -/
def cntRow (l : List Pt) : List Int := (List.range 64).map (cnt l)
theorem cntRow_nil : cntRow [] = List.replicate 64 0 := by decide
theorem cntRow_len (l : List Pt) : (cntRow l).length = 64 := by simp [cntRow]
theorem cntRow_get (l : List Pt) {j : Nat} (h : j < 64) : (cntRow l).getD j 0 = cnt l j := by
  rw [List.getD_eq_getElem?_getD]
  simp [cntRow, h]
theorem cntRow_push (l : List Pt) {p : Pt} (h0 : 0 ≤ p.at_) (h1 : p.at_ < 64) : cntRow (l ++ [p]) = (cntRow l).set p.at_.toNat (cnt l p.at_.toNat + 1) := by
  apply List.ext_getElem?
  intro i
  by_cases hi : i < 64
  · by_cases he : i = p.at_.toNat
    · subst he
      rw [List.getElem?_set_self (by rw [cntRow_len]; omega)]
      simp only [cntRow, List.getElem?_map, List.getElem?_range hi, Option.map_some]
      rw [cnt_push, if_pos (by omega)]
    · rw [List.getElem?_set_ne (by omega)]
      simp only [cntRow, List.getElem?_map, List.getElem?_range hi, Option.map_some]
      rw [cnt_push, if_neg (by omega)]
      simp
  · rw [List.getElem?_eq_none (by rw [cntRow_len]; omega), List.getElem?_eq_none (by rw [List.length_set, cntRow_len]; omega)]

section
variable {s : St}
theorem store_head (h : headB s = false) : storeB s = false := by rw [storeB, h]; rfl
theorem store_row {k : Nat} (hk : k < 64) (h : rowB s k = false) : storeB s = false := by
  have : (List.range 64).all (rowB s) = false := by
    rw [List.all_eq_false]
    exact ⟨k, by simpa using hk, by rw [h]; exact fun e => by cases e⟩
  rw [storeB, this]
  simp
theorem all_no {α : Type} {f : α → Bool} {l : List α} {x : α} (hm : x ∈ l) (h : f x = false) : l.all f = false := by
  rw [List.all_eq_false]
  exact ⟨x, hm, by rw [h]; exact fun e => by cases e⟩
theorem store_gone {p : Pt} (hp : p ∈ s.gone) (h : goneB (s.txg - 1) p = false) : storeB s = false := by
  rw [storeB, all_no hp h]
  simp
theorem store_dead {p : Pt} (hp : p ∈ s.dead) (h : goneB s.keep p = false) : storeB s = false := by
  rw [storeB, all_no hp h]
  simp
theorem store_owed {j : Nat} (hj : j < 64) (h : s.refs.getD j 0 < cnt (s.gone ++ s.dead) j) : storeB s = false := by
  have : owedB s (s.gone ++ s.dead) = false := all_no (x := j) (by simpa using hj) (decide_eq_false (by omega))
  rw [storeB, this]
  simp
theorem store_yes (h1 : headB s = true) (h2 : ∀ i, i < 64 → rowB s i = true) (h3 : ∀ p ∈ s.gone, goneB (s.txg - 1) p = true) (h4 : ∀ p ∈ s.dead, goneB s.keep p = true) (h5 : ∀ j, j < 64 → cnt (s.gone ++ s.dead) j ≤ s.refs.getD j 0) : storeB s = true := by
  rw [storeB, h1, List.all_eq_true.2 (fun i hi => h2 i (by simpa using hi)), List.all_eq_true.2 h3, List.all_eq_true.2 h4]
  simp only [Bool.true_and]
  unfold owedB
  rw [List.all_eq_true]
  exact fun j hj => by simpa using h5 j (by simpa using hj)
theorem row_no {i : Nat} (h : ¬ ((s.rows.getD i ⟨#[]⟩).size ≤ 128 ∧ s.last.getD i 0 ≤ s.txg) ∨ ((s.rows.getD i ⟨#[]⟩).toList == (⟨#[]⟩ : ByteArray).toList) ≠ (s.refs.getD i 0 == 0)) : rowB s i = false := by
  unfold rowB
  generalize s.rows.getD i ⟨#[]⟩ = row at *
  generalize s.last.getD i 0 = la at *
  generalize s.refs.getD i 0 = re at *
  rcases h with h | h
  · rcases Classical.not_and_iff_not_or_not.1 h with h | h <;> simp [h]
  · have : ((row.toList == (⟨#[]⟩ : ByteArray).toList) == (re == 0)) = false := beq_eq_false_iff_ne.2 h
    rw [this]; simp
theorem row_yes {i : Nat} (h1 : (s.rows.getD i ⟨#[]⟩).size ≤ 128) (h2 : s.last.getD i 0 ≤ s.txg) (h3 : ((s.rows.getD i ⟨#[]⟩).toList == (⟨#[]⟩ : ByteArray).toList) = (s.refs.getD i 0 == 0)) : rowB s i = true := by
  unfold rowB
  rw [h3]
  generalize s.rows.getD i ⟨#[]⟩ = row at *
  generalize s.last.getD i 0 = la at *
  simp [h1, h2]
theorem gone_no {top : Int} {p : Pt} (h : ptrB p = false ∨ holeB p = true ∨ top < p.birth) : goneB top p = false := by
  unfold goneB
  rcases h with h | h | h
  · rw [h]; rfl
  · rw [h]; simp
  · have : ¬ p.birth ≤ top := by omega
    simp [this]
theorem gone_yes {top : Int} {p : Pt} (h1 : ptrB p = true) (h2 : holeB p = false) (h3 : p.birth ≤ top) : goneB top p = true := by
  unfold goneB
  rw [h1, h2]
  simp [h3]
theorem gone_in {top : Int} {p : Pt} (h : goneB top p = true) : 8 ≤ p.at_ ∧ p.at_ ≤ 63 := by
  simp only [goneB, Bool.and_eq_true] at h
  have := ptr_in h.1 (by simpa using h.2.1)
  omega
theorem last_all (h1 : headB s = true) (h2 : maxL s.last ≤ s.txg) {i : Nat} (hi : i < 64) : s.last.getD i 0 ≤ s.txg := by
  simp only [headB, spaceB, Bool.and_eq_true, decide_eq_true_eq] at h1
  have hl := h1.2.1.2.1
  have hm := (maxL_le (by intro e; rw [e] at hl; simp at hl) (t := s.txg)).1 h2
  have : s.last[i]? = some s.last[i] := List.getElem?_eq_getElem (by omega)
  rw [List.getD_eq_getElem?_getD, this]
  exact hm _ (List.getElem_mem _)
theorem last_bad (h1 : headB s = true) (h2 : ¬ maxL s.last ≤ s.txg) : storeB s = false := by
  have hh := h1
  simp only [headB, spaceB, Bool.and_eq_true, decide_eq_true_eq] at h1
  have hl := h1.2.1.2.1
  rw [maxL_le (by intro e; rw [e] at hl; simp at hl)] at h2
  simp only [Classical.not_forall] at h2
  obtain ⟨y, hy, hy2⟩ := h2
  obtain ⟨i, hi, he⟩ := List.mem_iff_getElem.1 hy
  refine store_row (k := i) (by omega) (row_no (.inl ?_))
  rw [List.getD_eq_getElem?_getD (l := s.last), List.getElem?_eq_getElem hi, he]
  simp
  omega
end

end Go.Proofs.YtafadedacbjioaaGreatDoor

/- The map whose keys are pairs of numbers, and which says of each pair whether it is in it. -/
namespace Go.Proofs.YtafadedacbjioaaGreatDoor
open Go.RowKit
set_option maxRecDepth 100000
set_option linter.unusedVariables false

theorem wf64 {a : Int} (h0 : -9223372036854775808 ≤ a) (h1 : a ≤ 9223372036854775807) : (Lit.int .i64 a).wf = true := WalkArith.wf_i64 ⟨h0, h1⟩
def pk (a b : Int) : Value := .agg #[.int .i64 a, .int .i64 b]
theorem pk_inj {a b c d : Int} (h : pk a b = pk c d) : a = c ∧ b = d := by
  simpa [pk] using h

section
variable {w : World} {mb : Nat} {S : Int → Int → Prop} {a b : Int}
end

end Go.Proofs.YtafadedacbjioaaGreatDoor

/- New space, and a new store: both texts. -/
namespace Go.Proofs.YtafadedacbjioaaGreatDoor
open Go.RowKit
set_option maxRecDepth 100000
set_option linter.unusedVariables false
set_option linter.unusedSimpArgs false

/-- What 'make' lays. -/
def zerosN (n : Nat) : Obj := .cells (madeCells #[.int .i64 0] n) 3
def zerosS (n : Nat) : Obj := .cells (madeCells #[.string ⟨#[]⟩] n) 9
theorem make_N (n : Nat) (hn : n ≤ 1000000) (w : World) : (Instr.makeSlice 23 (.int .i64 (n : Int)) (.int .i64 (n : Int))).run Tryz.prog w = .ok (.slice (some ⟨w.heap.size, 0, none⟩) n n) (w.alloc (zerosN n)) :=
  run_make_row' (P := Tryz.prog) 23 3 (.int .i64 0) 8 Tryz.underlying23 info_int rfl .i64 .i64 n (by omega) (by omega) w
theorem make_S (n : Nat) (hn : n ≤ 1000000) (w : World) : (Instr.makeSlice 22 (.int .i64 (n : Int)) (.int .i64 (n : Int))).run Tryz.prog w = .ok (.slice (some ⟨w.heap.size, 0, none⟩) n n) (w.alloc (zerosS n)) :=
  run_make_row' (P := Tryz.prog) 22 9 (.string ⟨#[]⟩) 16 Tryz.underlying22 info_string rfl .i64 .i64 n (by omega) (by omega) w

theorem own_made {α : Type} {enc : α → Nat → Value} {T base n : Nat} {w : World} {b : Nat} {z : Value} {xs : List α} (hx : xs.length = n) (hb : base ≤ b) (hn : n ≤ maxLen) (h : w.heap[b]? = some (.cells (madeCells #[z] n) T)) (hm : (madeCells #[z] n).toList = cellsOf enc 1 xs) :
    Own enc 1 T base w (.slice (some ⟨b, 0, none⟩) n n) xs := by
  subst hx
  refine ⟨by rw [cellsOf_length], .inr ⟨b, xs.length, madeCells #[z] xs.length, rfl, hb, h, Nat.le_refl _, hn, by simp [size_madeCells], ?_⟩⟩
  rw [hm, Nat.mul_one]
  exact List.take_of_length_le (by rw [cellsOf_length]; omega)
theorem own_zerosN {base n : Nat} {w : World} {b : Nat} (hb : base ≤ b) (hn : n ≤ 1000000) (h : w.heap[b]? = some (zerosN n)) : Own encN 1 3 base w (.slice (some ⟨b, 0, none⟩) n n) (List.replicate n 0) :=
  own_made (by simp) hb (by unfold maxLen; omega) h (by have := madeN n; rw [Nat.mul_one] at this; exact this)
theorem own_zerosS {base n : Nat} {w : World} {b : Nat} (hb : base ≤ b) (hn : n ≤ 1000000) (h : w.heap[b]? = some (zerosS n)) : Own encS 1 9 base w (.slice (some ⟨b, 0, none⟩) n n) (List.replicate n ⟨#[]⟩) :=
  own_made (by simp) hb (by unfold maxLen; omega) h (by have := madeS n; rw [Nat.mul_one] at this; exact this)

/-- New space: two rows of noughts, apart. -/
def SpNew (w : World) (e : Ending) (w' : World) : Prop := ∃ b1 b2 : Nat, e = .returned (.agg #[.slice (some ⟨b1, 0, none⟩) 64 64, .slice (some ⟨b2, 0, none⟩) 64 64]) ∧ b1 ≠ b2 ∧ w.heap.size ≤ b1 ∧ w.heap.size ≤ b2 ∧ w'.heap[b1]? = some (zerosN 64) ∧ w'.heap[b2]? = some (zerosN 64) ∧ Below w.heap.size w w'

theorem heap_two {w : World} {a b c : Obj} : (((w.alloc a).alloc b).alloc c).heap[w.heap.size + 1]? = some b ∧ (((w.alloc a).alloc b).alloc c).heap[w.heap.size + 2]? = some c := by
  have e2 : ((w.alloc a).alloc b).heap.size = w.heap.size + 2 := by rw [World.size_alloc, World.size_alloc]
  have e1 : (w.alloc a).heap.size = w.heap.size + 1 := World.size_alloc _ _
  refine ⟨?_, ?_⟩
  · rw [Below.heap_alloc _ _ _ (by omega), ← e1]
    exact heap_alloc_new (w.alloc a) b
  · rw [← e2]
    exact heap_alloc_new ((w.alloc a).alloc b) c

theorem spNew_end {w W : World} {a : Obj} {b1 b2 : Nat} (hb : (b1 = w.heap.size + 1 ∧ b2 = w.heap.size + 1 + 1) ∨ (b2 = w.heap.size + 1 ∧ b1 = w.heap.size + 1 + 1)) (hW : W.heap = (((w.alloc a).alloc (zerosN 64)).alloc (zerosN 64)).heap) (hB : Below w.heap.size w W) :
    SpNew w (.returned (.agg #[.slice (some ⟨b1, 0, none⟩) 64 64, .slice (some ⟨b2, 0, none⟩) 64 64])) W := by
  obtain ⟨h1, h2⟩ := heap_two (w := w) (a := a) (b := zerosN 64) (c := zerosN 64)
  rw [← hW] at h1 h2
  rcases hb with ⟨rfl, rfl⟩ | ⟨rfl, rfl⟩
  · exact ⟨_, _, rfl, by omega, by omega, by omega, h1, h2, hB⟩
  · exact ⟨_, _, rfl, by omega, by omega, by omega, h2, h1, hB⟩

/-- A new store: its rows, apart; what was given up: nothing. -/
def StNew (same nl : Bool) (w : World) (e : Ending) (w' : World) : Prop := ∃ (b0 b1 b2 : Nat) (G D : Option Addr), e = .returned (.agg #[.slice (some ⟨b0, 0, none⟩) 64 64, .slice (some ⟨b1, 0, none⟩) 64 64, .slice (some ⟨b2, 0, none⟩) 64 64, .int .i64 1, .slice G 0 0, .int .i64 0, .slice D 0 0, .bool same]) ∧ b0 ≠ b1 ∧ b0 ≠ b2 ∧ b1 ≠ b2 ∧ w.heap.size ≤ b0 ∧ w.heap.size ≤ b1 ∧ w.heap.size ≤ b2 ∧
  w'.heap[b0]? = some (zerosS 64) ∧ w'.heap[b1]? = some (zerosN 64) ∧ w'.heap[b2]? = some (zerosN 64) ∧ Below w.heap.size w w' ∧ (nl = true → G = none ∧ D = none)

theorem heap_lt {w : World} {b : Nat} {o : Obj} (h : w.heap[b]? = some o) : b < w.heap.size := by
  rcases Nat.lt_or_ge b w.heap.size with h' | h'
  · exact h'
  · rw [Array.getElem?_eq_none h'] at h; cases h
section
variable {w W : World} {o : Obj} {b n : Nat} {x : Option Obj} {p : Addr} {v : Value}
theorem hp_new (h : b = w.heap.size) : (w.alloc o).heap[b]? = some o := by
  subst h
  exact heap_alloc_new w o
theorem hp_old (h : b < w.heap.size) (hx : w.heap[b]? = x) : (w.alloc o).heap[b]? = x := (Below.heap_alloc _ _ _ h).trans hx
theorem hp_set (h : b ≠ p.block) (hx : w.heap[b]? = x) : (w.setCell p v).heap[b]? = x := (Below.heap_setCell _ _ _ _ h).trans hx
theorem hp_drew (hx : w.heap[b]? = x) : w.drew.heap[b]? = x := hx
theorem hp_drewN (hx : w.heap[b]? = x) : (w.drewN n).heap[b]? = x := hx
theorem hp_below (hB : Below w.heap.size w W) (h : b < w.heap.size) (hx : w.heap[b]? = x) : W.heap[b]? = x := (hB.block b h).trans hx
end

end Go.Proofs.YtafadedacbjioaaGreatDoor

/- The space that a list of pointers makes: the program's text. -/
namespace Go.Proofs.YtafadedacbjioaaGreatDoor
open Go.RowKit
set_option maxRecDepth 100000
set_option linter.unusedVariables false
set_option linter.unusedSimpArgs false

theorem own_frozG {α : Type} {enc : α → Nat → Value} {sz T base : Nat} {w : World} {b n c : Nat} {xs : List α} (h : Own enc sz T base w (.slice (some ⟨b, 0, none⟩) n c) xs) : ∀ j, w.frozen? ⟨b, j, none⟩ = false := fun j => by
  obtain ⟨_, hl, _⟩ := own_rdG h
  subst hl
  exact World.ownsRow.frozenAt h j
/-- What counting gives: two rows of the call's own, or none. -/
def SpOfPost (w : World) (ps : List Pt) (e : Ending) (w' : World) : Prop := ∃ (v u : Value) (rs ls : List Int), (spOf ps).getD ([], []) = (rs, ls) ∧ e = .returned (.tuple #[.agg #[v, u], .bool (spOf ps).isSome]) ∧ Own encN 1 3 w.heap.size w' v rs ∧ Own encN 1 3 w.heap.size w' u ls ∧ Apart v u ∧ Below w.heap.size w w'

theorem spOf_end0 {w w' : World} {ps : List Pt} (h : spOf ps = none) (hB : Below w.heap.size w w') : SpOfPost w ps (.returned (.tuple #[.agg #[.slice none 0 0, .slice none 0 0], .bool false])) w' :=
  ⟨_, _, [], [], by rw [h]; rfl, by rw [h]; rfl, Own.nil, Own.nil, apart_nil _, hB⟩
theorem spOf_end1 {w w' : World} {ps : List Pt} {rs ls : List Int} {v u : Value} (h : spOf ps = some (rs, ls)) (h1 : Own encN 1 3 w.heap.size w' v rs) (h2 : Own encN 1 3 w.heap.size w' u ls) (ha : Apart v u) (hB : Below w.heap.size w w') : SpOfPost w ps (.returned (.tuple #[.agg #[v, u], .bool true])) w' :=
  ⟨_, _, rs, ls, by rw [h]; rfl, by rw [h]; rfl, h1, h2, ha, hB⟩

theorem own_setN {T base : Nat} {w : World} {b n c : Nat} {rs : List Int} (h : Own encN 1 T base w (.slice (some ⟨b, 0, none⟩) n c) rs) (j : Nat) (v : Int) (hj : j < n) : Own encN 1 T base (w.setCell ⟨b, j, none⟩ (.int .i64 v)) (.slice (some ⟨b, 0, none⟩) n c) (rs.set j v) := by
  obtain ⟨_, hl, _⟩ := own_rdG h
  subst hl
  have h1 := (World.ownsRow.stored h j (.int .i64 v)).1
  have e := cellsOf_set1 (enc := encN) rs j v hj
  unfold Own
  rw [List.length_set, ← e]
  exact h1
theorem own_other {T base : Nat} {w : World} {b b' n c : Nat} {rs : List Int} (h : Own encN 1 T base w (.slice (some ⟨b, 0, none⟩) n c) rs) {o : Nat} {u : Value} (hb : b ≠ b') : Own encN 1 T base (w.setCell ⟨b', o, none⟩ u) (.slice (some ⟨b, 0, none⟩) n c) rs :=
  h.kp (ex := [b']) ((Kp.refl _ _).setCell (.inl (by simp)) u) (fun x hx e => by simp at hx; simp [Value.ownBlock] at e; omega)
end Go.Proofs.YtafadedacbjioaaGreatDoor

/- The closure of the program's StoreOk: pointers counted. -/
namespace Go.Proofs.YtafadedacbjioaaGreatDoor
open Go.RowKit
set_option maxRecDepth 100000
set_option linter.unusedVariables false
set_option linter.unusedSimpArgs false

/-- A pointer that counts. -/
def badP (top : Int) (refs : List Int) (p : Pt) : Prop := goneB top p = false ∨ (8 ≤ p.at_ ∧ p.at_ ≤ 63 ∧ refs.getD p.at_.toNat 0 = 0)
def CntPost (base : Nat) (w : World) (b : Nat) (refs : List Int) (top : Int) (pre xs : List Pt) (e : Ending) (w' : World) : Prop :=
  ∃ ok : Bool, e = .returned (.bool ok) ∧ (ok = true → (∀ p ∈ xs, goneB top p = true) ∧ Own encN 1 3 base w' (.slice (some ⟨b, 0, none⟩) 64 64) (cntRow (pre ++ xs))) ∧ (ok = false → ∃ p ∈ xs, badP top refs p) ∧ Kp [b] w w'

structure CntAt (base : Nat) (w : World) (b : Nat) (top : Int) (pre xs : List Pt) (k : Nat) (wr : World) : Prop where
  ok : ∀ p ∈ xs.take k, goneB top p = true
  own : Own encN 1 3 base wr (.slice (some ⟨b, 0, none⟩) 64 64) (cntRow (pre ++ xs.take k))
  kp : Kp [b] w wr

theorem kp_trans_below {ex : List Nat} {w W W' : World} (h : Kp ex w W) (hB : Below W.heap.size W W') : Kp ex w W' := h.trans ((Kp.of_below hB).all ex)
theorem take_push {α : Type} {xs : List α} {k : Nat} {p : α} (he : xs[k]? = some p) : xs.take (k + 1) = xs.take k ++ [p] := by
  rw [List.take_add_one, he]; rfl

set_option maxHeartbeats 2000000 in
theorem count_any (base : Nat) (w : World) (G A : Option Addr) (cG cA : Nat) (xs pre : List Pt) (refs : List Int) (top : Int) (sb ob b : Nat) (v0 v2 v3 v4 v5 v6 v7 : Value)
    (h : RdT encP 5 w G xs) (hm : xs.length ≤ 1048576) (hp : pre.length ≤ 1048576)
    (hS : BoxAt w sb #[v0, .slice A 64 cA, v2, v3, v4, v5, v6, v7] 38) (hA : RdT encN 1 w A refs) (hl : refs.length = 64)
    (hO : BoxAt w ob #[.slice (some ⟨b, 0, none⟩) 64 64] 23) (hR : Own encN 1 3 base w (.slice (some ⟨b, 0, none⟩) 64 64) (cntRow pre))
    (n1 : sb ≠ b) (n2 : ob ≠ b) (n3 : 0 < xs.length → ∀ a, G = some a → a.block ≠ b) (n4 : ∀ a, A = some a → a.block ≠ b) :
    Calls Tryz.prog 68 #[.slice G xs.length cG, .int .i64 top, .pointer (some ⟨sb, 0, none⟩), .pointer (some ⟨ob, 0, none⟩)] w (CntPost base w b refs top pre xs) := by
  have HG := Lib.hid (fun wr (hk : Kp [b] w wr) => h.kp hk (fun h0 a ha hm => n3 h0 a ha (by simpa using hm)))
  have HA := Lib.hid (fun wr (hk : Kp [b] w wr) => hA.kp hk (fun _ a ha hm => n4 a ha (by simpa using hm)))
  have HS := Lib.hid (fun wr (hk : Kp [b] w wr) => hS.kp hk (by simpa using n1))
  have HO := Lib.hid (fun wr (hk : Kp [b] w wr) => hO.kp hk (by simpa using n2))
  have HR := Lib.hid hR
  have HL := Lib.hid hl
  have HP := Lib.hid hp
  obtain ⟨ba, oa, rfl, _, _⟩ := num_at (k := 0) hA (by omega)
  have hlt0 : b < w.heap.size := (own_in hR b (by simp [exOf', Value.ownBlock])).2
  clear h hS hA hO hR hl hp n3 n4
  go_enter Tryz.func68, Tryz.ntmps68
  go_wp2_with fail
  go_loopw [11] (fun i wr => ∃ k : Nat, k ≤ xs.length ∧ i = .int .i64 k ∧ Hid (CntAt base w b top pre xs k wr)) (fun i _ => xs.length - (intOf i).toNat)
  case atStart => exact ⟨0, Nat.zero_le _, rfl, Lib.hid ⟨by simp, by simpa using HR.out, Kp.refl _ _⟩⟩
  case round =>
    obtain ⟨k, hk, rfl, HC⟩ := hrel
    have hs := (HS.out wr HC.out.kp).cell
    have hsl := (HS.out wr HC.out.kp).lt
    have ho := (HO.out wr HC.out.kp).cell
    have hol := (HO.out wr HC.out.kp).lt
    have hwb := HC.out.kp.size
    by_cases hlt : k < xs.length
    · obtain ⟨b1, off, p, rfl, hb, he, c0, c1, c2, c3, c4⟩ := (HG.out wr HC.out.kp).ptr hlt
      have HE := Lib.hid he
      have HM := Lib.hid (List.mem_of_getElem? he)
      have HPO := Lib.hid (ptrOk_any p)
      have HH := Lib.hid (ptrHole_any p)
      have HPV := Lib.hid (show p.v = .agg #[.int .i64 p.at_, .int .i64 p.birth, .int .i64 p.size, .int .i64 p.sum, .int .i64 p.level] from rfl)
      rw [HPV.out] at HPO HH
      clear he
      have hBp := below_alloc (Below.refl wr.heap.size wr) (.cells #[.int .i64 p.at_, .int .i64 p.birth, .int .i64 p.size, .int .i64 p.sum, .int .i64 p.level] 40)
      have BXp := Lib.hid (box_new wr #[.int .i64 p.at_, .int .i64 p.birth, .int .i64 p.size, .int .i64 p.sum, .int .i64 p.level] 40)
      have KPp := Lib.hid (kp_trans_below HC.out.kp hBp)
      have OWp := Lib.hid (HC.out.own.below hBp)
      clear hBp
      cases hok : ptrB p
      · rw [hok] at HPO
        have E := Lib.hid (show badP top refs p from .inl (gone_no (.inl hok)))
        clear hok
        go_wp2_with fail
        refine Calls.mono (HPO.out _) ?_
        rintro e w2 ⟨rfl, hB⟩
        have K2 := Lib.hid (kp_trans_below KPp.out hB)
        clear hB
        go_wp2_with fail
        go_ret
        exact ⟨false, rfl, fun h => (by cases h), fun _ => ⟨p, HM.out, E.out⟩, K2.out⟩
      · rw [hok] at HPO
        cases hho : holeB p
        · rw [hho] at HH
          obtain ⟨hp1, hp2, hp3, hp4⟩ := ptr_in hok hho
          by_cases hbt : p.birth ≤ top
          · have HY := Lib.hid (gone_yes hok hho hbt)
            obtain ⟨rv, hrv⟩ : ∃ rv, refs.getD p.at_.toNat 0 = rv := ⟨_, rfl⟩
            by_cases hz : rv = 0
            · have E := Lib.hid (show badP top refs p from .inr ⟨hp1, hp2, hrv.trans hz⟩)
              subst hz
              clear hok hho
              go_wp2_with fail
              refine Calls.mono (HPO.out _) ?_
              rintro e w2 ⟨rfl, hB⟩
              have K2 := Lib.hid (kp_trans_below KPp.out hB)
              have BX2 := Lib.hid (BXp.out.below hB)
              have bx2 := BX2.out.cell
              clear hB
              go_wp2_with fail
              refine Calls.mono (HH.out _) ?_
              rintro e w3 ⟨rfl, hB⟩
              have K3 := Lib.hid (kp_trans_below K2.out hB)
              have BX3 := Lib.hid (BX2.out.below hB)
              have bx3 := BX3.out.cell
              have hs3 := (HS.out w3 K3.out).cell
              obtain ⟨bq, oq, hq1, hq2, hq3⟩ := num_at (k := p.at_.toNat) (HA.out w3 K3.out) (by rw [HL.out]; omega)
              cases hq1
              rw [hrv] at hq3
              have hp0 : (0 : Int) ≤ p.at_ := by omega
              have hp64 : p.at_ < 64 := by omega
              clear hB bx2 hrv hs ho
              go_wp2_with fail
              go_ret
              exact ⟨false, rfl, fun h => (by cases h), fun _ => ⟨p, HM.out, E.out⟩, K3.out⟩
            · have hz1 : (rv == 0) = false := by simpa using hz
              clear hok hho hz
              go_wp2_with fail
              refine Calls.mono (HPO.out _) ?_
              rintro e w2 ⟨rfl, hB⟩
              have K2 := Lib.hid (kp_trans_below KPp.out hB)
              have BX2 := Lib.hid (BXp.out.below hB)
              have bx2 := BX2.out.cell
              have O2 := Lib.hid (OWp.out.below hB)
              clear hB
              go_wp2_with fail
              refine Calls.mono (HH.out _) ?_
              rintro e w3 ⟨rfl, hB⟩
              have K3 := Lib.hid (kp_trans_below K2.out hB)
              have BX3 := Lib.hid (BX2.out.below hB)
              have bx3 := BX3.out.cell
              have hs3 := (HS.out w3 K3.out).cell
              have ho3 := (HO.out w3 K3.out).cell
              have O3 := Lib.hid (O2.out.below hB)
              obtain ⟨bq, oq, hq1, hq2, hq3⟩ := num_at (k := p.at_.toNat) (HA.out w3 K3.out) (by rw [HL.out]; omega)
              cases hq1
              rw [hrv] at hq3
              have hc3 : w3.cell? ⟨b, p.at_.toNat, none⟩ = some (.int .i64 (cnt (pre ++ xs.take k) p.at_.toNat)) := by
                obtain ⟨bq, oq, hq1, hq2, hq3⟩ := num_at (k := p.at_.toNat) (own_rdG O3.out).1 (by rw [cntRow_len]; omega)
                cases hq1
                rw [Nat.zero_add, cntRow_get _ (by omega)] at hq3
                exact hq3
              have hf3 : w3.frozen? ⟨b, p.at_.toNat, none⟩ = false := own_frozG O3.out _
              have hp0 : (0 : Int) ≤ p.at_ := by omega
              have hp64 : p.at_ < 64 := by omega
              have HN := Lib.hid (show Own encN 1 3 base (w3.setCell ⟨b, p.at_.toNat, none⟩ (.int .i64 (cnt (pre ++ xs.take k) p.at_.toNat + 1))) (.slice (some ⟨b, 0, none⟩) 64 64) (cntRow (pre ++ xs.take (k + 1))) by
                rw [take_push HE.out, ← List.append_assoc, cntRow_push _ hp0 hp64]
                exact own_setN O3.out p.at_.toNat _ (by omega))
              have HOK := Lib.hid (show ∀ q ∈ xs.take (k + 1), goneB top q = true by
                rw [take_push HE.out]
                intro q hq
                rcases List.mem_append.1 hq with hq | hq
                · exact HC.out.ok q hq
                · rw [List.mem_singleton.1 hq]; exact HY.out)
              have hcb : 0 ≤ cnt (pre ++ xs.take k) p.at_.toNat ∧ cnt (pre ++ xs.take k) p.at_.toNat ≤ 4194304 := by
                refine ⟨cnt_nn _ _, ?_⟩
                have h1 := cnt_le (pre ++ xs.take k) p.at_.toNat
                have h2 := HP.out
                rw [List.length_append, List.length_take] at h1
                omega
              obtain ⟨hcb0, hcb1⟩ := hcb
              generalize cnt (pre ++ xs.take k) p.at_.toNat = cv at *
              clear hB bx2 hrv hs ho
              go_wp2_with fail
              go_roundw
              case rel => exact ⟨k + 1, by omega, by go_num, Lib.hid ⟨HOK.out, HN.out, K3.out.setCell (.inl (by simp)) _⟩⟩
              case measure => simp [intOf]; omega
          · have E := Lib.hid (show badP top refs p from .inl (gone_no (.inr (.inr (by omega)))))
            clear hok hho
            go_wp2_with fail
            refine Calls.mono (HPO.out _) ?_
            rintro e w2 ⟨rfl, hB⟩
            have K2 := Lib.hid (kp_trans_below KPp.out hB)
            have BX2 := Lib.hid (BXp.out.below hB)
            have bx2 := BX2.out.cell
            clear hB
            go_wp2_with fail
            refine Calls.mono (HH.out _) ?_
            rintro e w3 ⟨rfl, hB⟩
            have K3 := Lib.hid (kp_trans_below K2.out hB)
            have BX3 := Lib.hid (BX2.out.below hB)
            have bx3 := BX3.out.cell
            clear hB bx2 hs ho
            go_wp2_with fail
            go_ret
            exact ⟨false, rfl, fun h => (by cases h), fun _ => ⟨p, HM.out, E.out⟩, K3.out⟩
        · rw [hho] at HH
          have E := Lib.hid (show badP top refs p from .inl (gone_no (.inr (.inl hho))))
          clear hok hho
          go_wp2_with fail
          refine Calls.mono (HPO.out _) ?_
          rintro e w2 ⟨rfl, hB⟩
          have K2 := Lib.hid (kp_trans_below KPp.out hB)
          have BX2 := Lib.hid (BXp.out.below hB)
          have bx2 := BX2.out.cell
          clear hB
          go_wp2_with fail
          refine Calls.mono (HH.out _) ?_
          rintro e w3 ⟨rfl, hB⟩
          have K3 := Lib.hid (kp_trans_below K2.out hB)
          clear hB bx2 hs ho
          go_wp2_with fail
          go_ret
          exact ⟨false, rfl, fun h => (by cases h), fun _ => ⟨p, HM.out, E.out⟩, K3.out⟩
    · obtain rfl : k = xs.length := by omega
      go_wp2_with fail
      go_ret
      refine ⟨true, rfl, fun _ => ⟨?_, ?_⟩, fun h => (by cases h), HC.out.kp⟩
      · have := HC.out.ok
        rw [List.take_length] at this
        exact this
      · have := HC.out.own
        rw [List.take_length] at this
        exact this

end Go.Proofs.YtafadedacbjioaaGreatDoor

/- A store's validity: the program's text. -/
namespace Go.Proofs.YtafadedacbjioaaGreatDoor
open Go.RowKit Go.Sort
set_option maxRecDepth 100000
set_option linter.unusedVariables false
set_option linter.unusedSimpArgs false

theorem head_len {s : St} (h : ¬ s.rows.length = 64) : headB s = false := by simp [headB, h]
theorem head_sp {s : St} (h : spaceB s.refs s.last = false) : headB s = false := by simp [headB, h]
theorem head_txg {s : St} (h : inB s.txg 1 900 = false) : headB s = false := by simp [headB, h]
theorem head_keep {s : St} (h : inB s.keep 0 (s.txg - 1) = false) : headB s = false := by simp [headB, h]
theorem head_yes {s : St} (h1 : s.rows.length = 64) (h2 : spaceB s.refs s.last = true) (h3 : inB s.txg 1 900 = true) (h4 : inB s.keep 0 (s.txg - 1) = true) : headB s = true := by simp [headB, h1, h2, h3, h4]
theorem space_lens {rs ls : List Int} (h : spaceB rs ls = true) : rs.length = 64 ∧ ls.length = 64 := by
  simp only [spaceB, Bool.and_eq_true, decide_eq_true_eq] at h
  exact ⟨h.1, h.2.1⟩
theorem bad_store {s : St} {p : Pt} (hp : p ∈ s.gone ∧ badP (s.txg - 1) s.refs p ∨ p ∈ s.dead ∧ badP s.keep s.refs p) : storeB s = false := by
  have hmem : p ∈ s.gone ++ s.dead := by
    rcases hp with ⟨h, _⟩ | ⟨h, _⟩ <;> simp [h]
  rcases hp with ⟨h, h1 | h2⟩ | ⟨h, h1 | h2⟩
  · exact store_gone h h1
  · have := cnt_mem hmem (by omega)
    exact store_owed (j := p.at_.toNat) (by omega) (by omega)
  · exact store_dead h h1
  · have := cnt_mem hmem (by omega)
    exact store_owed (j := p.at_.toNat) (by omega) (by omega)

theorem emp_eq (l : List UInt8) : (l == (⟨#[]⟩ : ByteArray).toList) = l.isEmpty := by simp

/-- What is known of a store's parts in each world above. -/
structure StK (w : World) (x : SA) (s : St) : Prop where
  rd : SRd w x s
  mG : x.nG ≤ 1048576
  mD : x.nD ≤ 1048576
theorem StK.sp {w : World} {x : SA} {s : St} (H : StK w x s) (W : World) (hB : Below w.heap.size w W) : Calls Tryz.prog 66 #[.agg #[.slice x.A x.nA x.cA, .slice x.B x.nB x.cB]] W fun e w' => e = .returned (.bool (spaceB s.refs s.last)) ∧ Below W.heap.size W w' := by
  have := spaceOk_any W x.A x.B x.cA x.cB s.refs s.last (H.rd.refs.below hB) (H.rd.last.below hB) (by rw [H.rd.lA]; exact H.rd.hA) (by rw [H.rd.lB]; exact H.rd.hB) H.rd.mA H.rd.mB
  rw [H.rd.lA, H.rd.lB] at this
  exact this
theorem StK.mx {w : World} {x : SA} {s : St} (H : StK w x s) (W : World) (hB : Below w.heap.size w W) (h64 : x.nB = 64) : Calls Tryz.prog 67 #[.slice x.B 64 x.cB] W fun e w' => e = .returned (.int .i64 (maxL s.last)) ∧ W = w' := by
  have := slicesMax_any W x.B x.cB s.last (H.rd.last.below hB) (by rw [H.rd.lB, h64]; omega) (by rw [H.rd.lB]; exact H.rd.hB) H.rd.mB
  rw [H.rd.lB, h64] at this
  exact this

set_option maxHeartbeats 8000000 in
theorem storeOk_any (w : World) (x : SA) (s : St) (h : SRd w x s) (mG : x.nG ≤ 1048576) (mD : x.nD ≤ 1048576) :
    Calls Tryz.prog 45 #[x.v s.txg s.keep s.same] w fun e w' => e = .returned (.bool (storeB s)) ∧ Below w.heap.size w w' := by
  have HK := Lib.hid (show StK w x s from ⟨h, mG, mD⟩)
  have HSP := Lib.hid HK.out.sp
  have HMX := Lib.hid HK.out.mx
  have hnR := h.lR
  have hnA := h.lA
  have hnB := h.lB
  have hnG := h.lG
  have hnD := h.lD
  clear h
  obtain ⟨R, nR, cR, A, nA, cA, B, nB, cB, G, nG, cG, D, nD, cD⟩ := x
  unfold SA.v
  dsimp only at *
  subst hnG
  subst hnD
  have HBw := Lib.hid (below_alloc (Below.refl w.heap.size w) (.cells #[.slice R nR cR, .slice A nA cA, .slice B nB cB, .int .i64 s.txg, .slice G s.gone.length cG, .int .i64 s.keep, .slice D s.dead.length cD, .bool s.same] 38))
  have BXw := Lib.hid (box_new w #[.slice R nR cR, .slice A nA cA, .slice B nB cB, .int .i64 s.txg, .slice G s.gone.length cG, .int .i64 s.keep, .slice D s.dead.length cD, .bool s.same] 38)
  have bx := BXw.out.cell
  have bl := BXw.out.lt
  by_cases h1 : s.rows.length = 64
  · have e1 : nR = 64 := by omega
    subst e1
    cases h2 : spaceB s.refs s.last
    · have E := Lib.hid (store_head (head_sp h2))
      rw [h2] at HSP
      clear h2 hnA hnB
      go_enter Tryz.func45, Tryz.ntmps45
      go_wp2_with fail
      refine wp_quiet_b (by kernel_rfl) (by kernel_rfl) (fun hgrow => ?_)
      repeat (go_big_quiet_step ((go_at_call 66; exact quiet_b (HSP.out _ (below_below HBw.out (below_regrown _ _ _))))))
      refine wpQuiet_nil ?_
      intro w2 hww2
      replace hww2 := below_of_regrown hww2
      clear hgrow
      have HB2 := Lib.hid (below_below HBw.out hww2)
      clear hww2
      go_wp2_with fail
      go_ret
      exact ⟨ret_bool E.out.symm, HB2.out⟩
    · obtain ⟨hA64, hB64⟩ := space_lens h2
      have e2 : nA = 64 := by omega
      have e3 : nB = 64 := by omega
      subst e2
      subst e3
      rw [h2] at HSP
      replace HMX := Lib.hid (fun W hB => HMX.out W hB rfl)
      cases h3 : inB s.txg 1 900
      · have E := Lib.hid (store_head (head_txg h3))
        clear h2 hnA hnB
        go_enter Tryz.func45, Tryz.ntmps45
        go_wp2_with fail
        refine wp_quiet_b (by kernel_rfl) (by kernel_rfl) (fun hgrow => ?_)
        repeat (go_big_quiet_step ((first | (go_at_call 66; exact quiet_b (HSP.out _ (below_below HBw.out (below_regrown _ _ _)))) | (go_at_call 56; exact quiet_s (within_any _ _ _ _)))))
        refine wpQuiet_nil ?_
        intro w2 hww2
        replace hww2 := below_of_regrown hww2
        clear hgrow
        have HB2 := Lib.hid (below_below HBw.out hww2)
        clear hww2
        go_wp2_with fail
        go_ret
        exact ⟨ret_bool E.out.symm, HB2.out⟩
      · obtain ⟨ht1, ht2⟩ := inB_true h3
        cases h4 : inB s.keep 0 (s.txg - 1)
        · have E := Lib.hid (store_head (head_keep h4))
          clear h2 hnA hnB
          go_enter Tryz.func45, Tryz.ntmps45
          go_wp2_with fail
          refine wp_quiet_b (by kernel_rfl) (by kernel_rfl) (fun hgrow => ?_)
          repeat (go_big_quiet_step ((first | (go_at_call 66; exact quiet_b (HSP.out _ (below_below HBw.out (below_regrown _ _ _)))) | (go_at_call 56; exact quiet_s (within_any _ _ _ _)))))
          refine wpQuiet_nil ?_
          intro w2 hww2
          replace hww2 := below_of_regrown hww2
          clear hgrow
          have HB2 := Lib.hid (below_below HBw.out hww2)
          clear hww2
          go_wp2_with fail
          go_ret
          exact ⟨ret_bool E.out.symm, HB2.out⟩
        · have HD := Lib.hid (head_yes h1 h2 h3 h4)
          obtain ⟨hk1, hk2⟩ := inB_true h4
          obtain ⟨mx, hmx⟩ : ∃ mx, maxL s.last = mx := ⟨_, rfl⟩
          rw [hmx] at HMX
          by_cases h5 : mx ≤ s.txg
          · have h5b : decide (s.txg < mx) = false := decide_eq_false (by omega)
            have HLA := Lib.hid (fun i hi => last_all (i := i) HD.out (by rw [hmx]; exact h5) hi)
            clear h2 hnA hnB hmx
            go_enter Tryz.func45, Tryz.ntmps45
            go_wp2_with fail
            refine wp_quiet_b (by kernel_rfl) (by kernel_rfl) (fun hgrow => ?_)
            repeat (go_big_quiet_step ((first | (go_at_call 66; exact quiet_b (HSP.out _ (below_below HBw.out (below_regrown _ _ _)))) | (go_at_call 56; exact quiet_s (within_any _ _ _ _)) | (go_at_call 67; exact quiet_s (HMX.out _ (below_below HBw.out (below_regrown _ _ _)))))))
            refine wpQuiet_nil ?_
            intro w2 hww2
            replace hww2 := below_of_regrown hww2
            clear hgrow
            have HB2 := Lib.hid (below_below HBw.out hww2)
            have BX2 := Lib.hid (BXw.out.below hww2)
            have bx2 := BX2.out.cell
            have bl2 := BX2.out.lt
            clear hww2 bx bl HSP HMX
            go_wp2_with fail
            have HRS := Lib.hid (fun W (hB : Below w.heap.size w W) => HK.out.rd.below hB)
            have HRW := Lib.hid (fun W (hB : Below w.heap.size w W) k (hk : k < 64) => str_at (k := k) (HRS.out W hB).rows (by rw [h1]; exact hk))
            have HAW := Lib.hid (fun W (hB : Below w.heap.size w W) k (hk : k < 64) => num_at (k := k) (HRS.out W hB).refs (by rw [hA64]; exact hk))
            have HNO := Lib.hid (fun k (hk : k < 64) (h : ((s.rows.getD k ⟨#[]⟩).toList == (⟨#[]⟩ : ByteArray).toList) ≠ (s.refs.getD k 0 == 0)) => store_row (s := s) (k := k) hk (row_no (.inr h)))
            have HNS := Lib.hid (fun k (hk : k < 64) (h : ¬ (s.rows.getD k ⟨#[]⟩).size ≤ 128) => store_row (s := s) (k := k) hk (row_no (.inl (fun hh => h hh.1))))
            have HYE := Lib.hid (fun k (hk : k < 64) (h1 : (s.rows.getD k ⟨#[]⟩).size ≤ 128) (h2 : ((s.rows.getD k ⟨#[]⟩).toList == (⟨#[]⟩ : ByteArray).toList) = (s.refs.getD k 0 == 0)) => row_yes (s := s) (i := k) h1 (HLA.out k hk) h2)
            clear hA64 hB64 h1 h5 h5b HLA
            go_loopw [46] (fun i wr => ∃ k : Nat, k ≤ 64 ∧ i = .int .i64 k ∧ Hid (∀ i, i < k → rowB s i = true) ∧ w2 = wr) (fun i _ => 64 - (intOf i).toNat)
            case atStart => exact ⟨0, Nat.zero_le _, rfl, Lib.hid (fun i hi => by omega), rfl⟩
            case round =>
              obtain ⟨k, hk, rfl, HO, rfl⟩ := hrel
              by_cases hlt : k < 64
              · obtain ⟨b1, o1, hq1, hb1, c1⟩ := HRW.out w2 HB2.out k hlt
                obtain ⟨b2, o2, hq2, hb2, c2⟩ := HAW.out w2 HB2.out k hlt
                subst hq1
                subst hq2
                have HNO2 := Lib.hid (HNO.out k hlt)
                have HNS2 := Lib.hid (HNS.out k hlt)
                have HYE2 := Lib.hid (HYE.out k hlt)
                generalize hrow : s.rows.getD k ⟨#[]⟩ = row at *
                generalize s.refs.getD k 0 = n at *
                by_cases hs : row.size ≤ 128
                · by_cases hm : (row.toList == (⟨#[]⟩ : ByteArray).toList) = (n == 0)
                  · have HY := Lib.hid (HYE2.out hs hm)
                    have HO2 := Lib.hid (show ∀ i, i < k + 1 → rowB s i = true from fun i hi => by
                      rcases Nat.lt_or_ge i k with h' | h'
                      · exact HO.out i h'
                      · have : i = k := by omega
                        subst this; exact HY.out)
                    clear HNO2 HNS2 HYE2
                    rw [emp_eq] at hm
                    cases hz : (n == 0)
                    · rw [hz] at hm
                      go_wp2_with fail
                      go_roundw
                      case rel => exact ⟨_, _, _, _, ⟨k + 1, by omega, by go_num, HO2⟩, rfl, rfl, rfl, rfl⟩
                      case measure => simp [intOf]; omega
                    · rw [hz] at hm
                      go_wp2_with fail
                      go_roundw
                      case rel => exact ⟨_, _, _, _, ⟨k + 1, by omega, by go_num, HO2⟩, rfl, rfl, rfl, rfl⟩
                      case measure => simp [intOf]; omega
                  · have E := Lib.hid (HNO2.out hm)
                    clear HNO2 HNS2 HYE2
                    rw [emp_eq] at hm
                    cases hz : (n == 0)
                    · rw [hz] at hm
                      have hm' : row.toList.isEmpty = true := by simpa using hm
                      clear hm
                      go_wp2_with fail
                      go_ret
                      exact ⟨ret_bool E.out.symm, HB2.out⟩
                    · rw [hz] at hm
                      have hm' : row.toList.isEmpty = false := Bool.eq_false_iff.2 hm
                      clear hm
                      go_wp2_with fail
                      go_ret
                      exact ⟨ret_bool E.out.symm, HB2.out⟩
                · have E := Lib.hid (HNS2.out hs)
                  clear HNO2 HYE2
                  go_wp2_with fail
                  go_ret
                  exact ⟨ret_bool E.out.symm, HB2.out⟩
              · obtain rfl : k = 64 := by omega
                clear HRW HNO HNS HYE
                have hmk : ∀ W : World, (Instr.makeSlice 23 (.int .i64 64) (.int .i64 64)).run Tryz.prog W = .ok (.slice (some ⟨W.heap.size, 0, none⟩) 64 64) (W.alloc (zerosN 64)) := make_N 64 (by omega)
                have hB3 := below_alloc (below_alloc (Below.refl w2.heap.size w2) (zerosN 64)) (.cells #[.slice (some ⟨w2.heap.size, 0, none⟩) 64 64] 23)
                have HB3 := Lib.hid (below_below HB2.out hB3)
                have S3 := Lib.hid (BX2.out.below hB3)
                have OB3 := box_new (w2.alloc (zerosN 64)) #[.slice (some ⟨w2.heap.size, 0, none⟩) 64 64] 23
                rw [World.size_alloc] at OB3
                have OW3 := own_zerosN (base := w.heap.size) (b := w2.heap.size) (n := 64) (w := (w2.alloc (zerosN 64)).alloc (.cells #[.slice (some ⟨w2.heap.size, 0, none⟩) 64 64] 23)) (by omega) (by omega) (hp_old (by simp) (hp_new rfl))
                rw [← cntRow_nil] at OW3
                have HNG := Lib.hid (show ∀ (xs : List Pt) (X : Option Addr), RdT encP 5 w2 X xs → 0 < xs.length → ∀ a, X = some a → a.block ≠ w2.heap.size from fun xs X hr h0 a ha => by have := hr.lt h0 a ha; omega)
                have HNA := Lib.hid (show ∀ a, A = some a → a.block ≠ w2.heap.size from fun a ha => by have := (HRS.out w2 HB2.out).refs.lt (by have := (HRS.out w2 HB2.out).lA; dsimp only at this; omega) a ha; omega)
                have HLR := Lib.hid (show s.refs.length = 64 from (HRS.out w2 HB2.out).lA)
                have HC1 := Lib.hid (count_any w.heap.size _ G A cG cA s.gone [] s.refs (s.txg - 1) w.heap.size (w2.heap.size + 1) w2.heap.size _ _ _ _ _ _ _ (HRS.out _ HB3.out).gone mG (by simp) S3.out (HRS.out _ HB3.out).refs HLR.out OB3 OW3 (by omega) (by omega) (HNG.out _ _ (HRS.out w2 HB2.out).gone) HNA.out)
                have OB3h := Lib.hid OB3
                clear hB3 OB3 OW3
                go_wp2_with fail
                refine Calls.mono HC1.out ?_
                rintro e w4 ⟨ok, rfl, hY, hN, hK4⟩
                have HB4 := Lib.hid (below_kp HB3.out hK4 (fun k hk => by simp at hk; omega))
                clear HC1
                cases ok
                · obtain ⟨p, hp, hbad⟩ := hN rfl
                  have E := Lib.hid (bad_store (.inl ⟨hp, hbad⟩))
                  clear hY hN hK4 hp hbad
                  go_wp2_with fail
                  go_ret
                  exact ⟨ret_bool E.out.symm, HB4.out⟩
                · obtain ⟨hall, hO4⟩ := hY rfl
                  rw [List.nil_append] at hO4
                  have S4 := Lib.hid (S3.out.kp hK4 (by simp; omega))
                  have OB4 := Lib.hid (OB3h.out.kp hK4 (by simp))
                  have HA1 := Lib.hid hall
                  have s4 := S4.out.cell
                  have o4 := OB4.out.cell
                  have HC2 := Lib.hid (count_any w.heap.size w4 D A cD cA s.dead s.gone s.refs s.keep w.heap.size (w2.heap.size + 1) w2.heap.size _ _ _ _ _ _ _ (HRS.out _ HB4.out).dead mD mG S4.out (HRS.out _ HB4.out).refs HLR.out OB4.out hO4 (by omega) (by omega) (HNG.out _ _ (HRS.out w2 HB2.out).dead) HNA.out)
                  clear hY hN hK4 hall hO4 S3 OB3h bx2
                  go_wp2_with fail
                  refine Calls.mono HC2.out ?_
                  rintro e w5 ⟨ok, rfl, hY, hN, hK5⟩
                  have HB5 := Lib.hid (below_kp HB4.out hK5 (fun k hk => by simp at hk; omega))
                  clear HC2
                  cases ok
                  · obtain ⟨p, hp, hbad⟩ := hN rfl
                    have E := Lib.hid (bad_store (.inr ⟨hp, hbad⟩))
                    clear hY hN hK5 hp hbad
                    go_wp2_with fail
                    go_ret
                    exact ⟨ret_bool E.out.symm, HB5.out⟩
                  · obtain ⟨hall, hO5⟩ := hY rfl
                    have S5 := Lib.hid (S4.out.kp hK5 (by simp; omega))
                    have OB5 := Lib.hid (OB4.out.kp hK5 (by simp))
                    have OW5 := Lib.hid hO5
                    have HA2 := Lib.hid hall
                    have s5 := S5.out.cell
                    have o5 := OB5.out.cell
                    have HYS := Lib.hid (fun h => store_yes HD.out HO.out HA1.out HA2.out h)
                    have HNW := Lib.hid (fun j (hj : j < 64) (h : s.refs.getD j 0 < cnt (s.gone ++ s.dead) j) => store_owed hj h)
                    clear hY hN hK5 hall hO5 S4 OB4 s4 o4
                    go_wp2_with fail
                    go_loopw [88] (fun i wr => ∃ k : Nat, k ≤ 64 ∧ i = .int .i64 k ∧ Hid (∀ j, j < k → cnt (s.gone ++ s.dead) j ≤ s.refs.getD j 0) ∧ w5 = wr) (fun i _ => 64 - (intOf i).toNat)
                    case atStart => exact ⟨0, Nat.zero_le _, rfl, Lib.hid (fun i hi => by omega), rfl⟩
                    case round =>
                      obtain ⟨k, hk, rfl, HJ, rfl⟩ := hrel
                      by_cases hlt : k < 64
                      · obtain ⟨b2, o2, hq2, hb2, c2⟩ := HAW.out w5 HB5.out k hlt
                        subst hq2
                        obtain ⟨b3, o3, hq3, hb3, c3⟩ := num_at (k := k) (own_rdG OW5.out).1 (by rw [cntRow_len]; exact hlt)
                        cases hq3
                        rw [Nat.zero_add, cntRow_get _ hlt] at c3
                        have HNW2 := Lib.hid (HNW.out k hlt)
                        have HJ2 := Lib.hid (show cnt (s.gone ++ s.dead) k ≤ s.refs.getD k 0 → ∀ j, j < k + 1 → cnt (s.gone ++ s.dead) j ≤ s.refs.getD j 0 from fun h i hi => by
                          rcases Nat.lt_or_ge i k with h' | h'
                          · exact HJ.out i h'
                          · have : i = k := by omega
                            subst this; exact h)
                        generalize cnt (s.gone ++ s.dead) k = cv at *
                        generalize s.refs.getD k 0 = n at *
                        by_cases hcv : cv ≤ n
                        · have HJ3 := Lib.hid (HJ2.out hcv)
                          clear HNW2 HJ2
                          go_wp2_with fail
                          go_roundw
                          case rel => exact ⟨k + 1, by omega, by go_num, HJ3, by trivial⟩
                          case measure => simp [intOf]; omega
                        · have E := Lib.hid (HNW2.out (by omega))
                          clear HNW2 HJ2
                          go_wp2_with fail
                          go_ret
                          exact ⟨ret_bool E.out.symm, HB5.out⟩
                      · obtain rfl : k = 64 := by omega
                        have E := Lib.hid (HYS.out HJ.out)
                        go_wp2_with fail
                        go_ret
                        exact ⟨ret_bool E.out.symm, HB5.out⟩
          · have h5b : decide (s.txg < mx) = true := decide_eq_true (by omega)
            have E := Lib.hid (last_bad HD.out (by rw [hmx]; exact h5))
            clear h2 hnA hnB hmx
            go_enter Tryz.func45, Tryz.ntmps45
            go_wp2_with fail
            refine wp_quiet_b (by kernel_rfl) (by kernel_rfl) (fun hgrow => ?_)
            repeat (go_big_quiet_step ((first | (go_at_call 66; exact quiet_b (HSP.out _ (below_below HBw.out (below_regrown _ _ _)))) | (go_at_call 56; exact quiet_s (within_any _ _ _ _)) | (go_at_call 67; exact quiet_s (HMX.out _ (below_below HBw.out (below_regrown _ _ _)))))))
            refine wpQuiet_nil ?_
            intro w2 hww2
            replace hww2 := below_of_regrown hww2
            clear hgrow
            have HB2 := Lib.hid (below_below HBw.out hww2)
            clear hww2
            go_wp2_with fail
            go_ret
            exact ⟨ret_bool E.out.symm, HB2.out⟩
  · have E := Lib.hid (store_head (head_len h1))
    have h1' : ((nR : Int) != 64) = true := by
      simp only [bne_iff_ne, ne_eq]
      omega
    clear h1 hnR hnA hnB
    go_enter Tryz.func45, Tryz.ntmps45
    go_wp2_with fail
    refine wp_quiet_b (by kernel_rfl) (by kernel_rfl) (fun hgrow => ?_)
    repeat (go_big_quiet_step (fail))
    refine wpQuiet_nil ?_
    intro w2 hww2
    replace hww2 := below_of_regrown hww2
    clear hgrow
    have HB2 := Lib.hid (below_below HBw.out hww2)
    clear hww2
    go_wp2_with fail
    go_ret
    exact ⟨ret_bool E.out.symm, HB2.out⟩

end Go.Proofs.YtafadedacbjioaaGreatDoor

/- A store's validity: the reference's text. -/
namespace Go.Proofs.YtafadedacbjioaaGreatDoor
open Go.RowKit Go.Sort
set_option maxRecDepth 100000
set_option linter.unusedVariables false
set_option linter.unusedSimpArgs false

theorem BoxAt.put {w : World} {b : Nat} {cs : Array Value} {T : TypeId} (h : BoxAt w b cs T) (j : Nat) (v : Value) : BoxAt (w.setCell ⟨b, j, none⟩ v) b (cs.setIfInBounds j v) T := by
  obtain ⟨hlt, hk⟩ := Array.getElem?_eq_some_iff.1 (show w.heap[b]? = some (.cells cs T) from h)
  show (w.heap.modify b _)[b]? = _
  rw [Array.getElem?_eq_getElem (by rw [Array.size_modify]; exact hlt), Array.getElem_modify_self, hk]
  rfl
theorem space_nn {rs ls : List Int} (h : spaceB rs ls = true) {j : Nat} (hj : j < 64) : 0 ≤ rs.getD j 0 := by
  simp only [spaceB, Bool.and_eq_true, decide_eq_true_eq, List.all_eq_true] at h
  exact (okRow_iff.1 (h.2.2 j (by simpa using hj))).1
def topAt (s : St) (i : Nat) : Int := if i < s.gone.length then s.txg - 1 else s.keep

theorem StK.sp2 {w : World} {x : SA} {s : St} (H : StK w x s) (W : World) (hB : Below w.heap.size w W) : Calls Tryz.prog 73 #[.agg #[.slice x.A x.nA x.cA, .slice x.B x.nB x.cB]] W fun e w' => e = .returned (.bool (spaceB s.refs s.last)) ∧ Below W.heap.size W w' := by
  have := specSpaceOk_any W x.A x.B x.cA x.cB s.refs s.last (H.rd.refs.below hB) (H.rd.last.below hB) (by rw [H.rd.lA]; exact H.rd.hA) (by rw [H.rd.lB]; exact H.rd.hB) H.rd.mA H.rd.mB
  rw [H.rd.lA, H.rd.lB] at this
  exact this

/-- How far the reference has come with the pointers. -/
structure SCnt (w : World) (b : Nat) (cs : Array Value) (s : St) (k : Nat) (wr : World) : Prop where
  ok : ∀ i p, i < k → (s.gone ++ s.dead)[i]? = some p → goneB (topAt s i) p = true
  own : Own encN 1 3 w.heap.size wr (.slice (some ⟨b, 0, none⟩) 64 64) (cntRow ((s.gone ++ s.dead).take k))
  cap : ∀ j, j < 64 → cnt ((s.gone ++ s.dead).take k) j ≤ s.refs.getD j 0
  box : BoxAt wr w.heap.size cs 38
  bel : Below w.heap.size w wr
theorem SCnt.below {w : World} {b : Nat} {cs : Array Value} {s : St} {k : Nat} {wr w' : World} (h : SCnt w b cs s k wr) (hB : Below wr.heap.size wr w') : SCnt w b cs s k w' :=
  ⟨h.ok, h.own.below hB, h.cap, h.box.below hB, below_below h.bel hB⟩
theorem scnt_step {w : World} {b : Nat} {cs : Array Value} {s : St} {k : Nat} {wr w3 : World} {p : Pt} (h : SCnt w b cs s k wr) (he : (s.gone ++ s.dead)[k]? = some p) (hy : goneB (topAt s k) p = true) (h0 : 0 ≤ p.at_) (h1 : p.at_ < 64)
    (O : Own encN 1 3 w.heap.size w3 (.slice (some ⟨b, 0, none⟩) 64 64) (cntRow ((s.gone ++ s.dead).take k))) :
    (∀ i q, i < k + 1 → (s.gone ++ s.dead)[i]? = some q → goneB (topAt s i) q = true) ∧
    Own encN 1 3 w.heap.size (w3.setCell ⟨b, p.at_.toNat, none⟩ (.int .i64 (cnt ((s.gone ++ s.dead).take k) p.at_.toNat + 1))).drew (.slice (some ⟨b, 0, none⟩) 64 64) (cntRow ((s.gone ++ s.dead).take (k + 1))) ∧
    (cnt ((s.gone ++ s.dead).take k) p.at_.toNat + 1 ≤ s.refs.getD p.at_.toNat 0 → ∀ j, j < 64 → cnt ((s.gone ++ s.dead).take (k + 1)) j ≤ s.refs.getD j 0) := by
  refine ⟨?_, ?_, ?_⟩
  · intro i q hi hq
    rcases Nat.lt_or_ge i k with h' | h'
    · exact h.ok i q h' hq
    · obtain rfl : i = k := by omega
      rw [he] at hq
      cases hq
      exact hy
  · rw [take_push he, cntRow_push _ h0 h1]
    exact (own_setN O p.at_.toNat _ (by omega)).kp (ex := []) (Kp.refl [] _).drew (fun x hx e => by cases hx)
  · intro hc j hj
    rw [take_push he, cnt_push]
    split
    · next e =>
      have : j = p.at_.toNat := by omega
      subst this
      exact hc
    · have := h.cap j hj
      omega
theorem cnt_cell {w W : World} {b : Nat} {s : St} {k : Nat} {p : Pt} (he : (s.gone ++ s.dead)[k]? = some p) (h0 : 0 ≤ p.at_) (h1 : p.at_ < 64)
    (O : Own encN 1 3 w.heap.size W (.slice (some ⟨b, 0, none⟩) 64 64) (cntRow ((s.gone ++ s.dead).take (k + 1)))) :
    W.cell? ⟨b, p.at_.toNat, none⟩ = some (.int .i64 (cnt ((s.gone ++ s.dead).take k) p.at_.toNat + 1)) := by
  obtain ⟨bq, oq, hq1, hq2, hq3⟩ := num_at (k := p.at_.toNat) (own_rdG O).1 (by rw [cntRow_len]; omega)
  cases hq1
  rw [Nat.zero_add, cntRow_get _ (by omega), take_push he, cnt_push, if_pos (by omega)] at hq3
  exact hq3
theorem scnt_bad {s : St} {k : Nat} {p : Pt} (he : (s.gone ++ s.dead)[k]? = some p) (h : goneB (topAt s k) p = false) : storeB s = false := by
  unfold topAt at h
  by_cases hk : k < s.gone.length
  · rw [if_pos hk] at h
    rw [List.getElem?_append_left hk] at he
    exact store_gone (List.mem_of_getElem? he) h
  · rw [if_neg hk] at h
    rw [List.getElem?_append_right (by omega)] at he
    exact store_dead (List.mem_of_getElem? he) h
theorem scnt_over {s : St} {k : Nat} {j : Nat} (hj : j < 64) (h : s.refs.getD j 0 < cnt ((s.gone ++ s.dead).take k) j) : storeB s = false := by
  refine store_owed hj ?_
  have := cnt_app ((s.gone ++ s.dead).take k) ((s.gone ++ s.dead).drop k) j
  rw [List.take_append_drop] at this
  omega
theorem scnt_end {w : World} {b : Nat} {cs : Array Value} {s : St} {wr : World} (hd : headB s = true) (hr : ∀ i, i < 64 → rowB s i = true) (h : SCnt w b cs s (s.gone.length + s.dead.length) wr) : storeB s = true := by
  refine store_yes hd hr ?_ ?_ ?_
  · intro p hp
    obtain ⟨i, hi, he⟩ := List.mem_iff_getElem.1 hp
    have := h.ok i p (by omega) (by rw [List.getElem?_append_left hi, List.getElem?_eq_getElem hi, he])
    rw [topAt, if_pos hi] at this
    exact this
  · intro p hp
    obtain ⟨i, hi, he⟩ := List.mem_iff_getElem.1 hp
    have := h.ok (s.gone.length + i) p (by omega) (by rw [List.getElem?_append_right (by omega), Nat.add_sub_cancel_left, List.getElem?_eq_getElem hi, he])
    rw [topAt, if_neg (by omega)] at this
    exact this
  · intro j hj
    have := h.cap j hj
    rw [List.take_of_length_le (by rw [List.length_append]; exact Nat.le_refl _)] at this
    exact this

set_option maxHeartbeats 8000000 in
theorem specStoreOk_any (w : World) (x : SA) (s : St) (h : SRd w x s) (mG : x.nG ≤ 1048576) (mD : x.nD ≤ 1048576) :
    Calls Tryz.prog 52 #[x.v s.txg s.keep s.same] w fun e w' => e = .returned (.bool (storeB s)) ∧ Below w.heap.size w w' := by
  have HK := Lib.hid (show StK w x s from ⟨h, mG, mD⟩)
  have HSP := Lib.hid HK.out.sp2
  have hnR := h.lR
  have hnA := h.lA
  have hnB := h.lB
  have hnG := h.lG
  have hnD := h.lD
  clear h
  obtain ⟨R, nR, cR, A, nA, cA, B, nB, cB, G, nG, cG, D, nD, cD⟩ := x
  unfold SA.v
  dsimp only at *
  subst hnG
  subst hnD
  have HBw := Lib.hid (below_alloc (Below.refl w.heap.size w) (.cells #[.slice R nR cR, .slice A nA cA, .slice B nB cB, .int .i64 s.txg, .slice G s.gone.length cG, .int .i64 s.keep, .slice D s.dead.length cD, .bool s.same] 38))
  have BXw := Lib.hid (box_new w #[.slice R nR cR, .slice A nA cA, .slice B nB cB, .int .i64 s.txg, .slice G s.gone.length cG, .int .i64 s.keep, .slice D s.dead.length cD, .bool s.same] 38)
  have bx := BXw.out.cell
  have bl := BXw.out.lt
  by_cases h1 : s.rows.length = 64
  · have e1 : nR = 64 := by omega
    subst e1
    cases h2 : spaceB s.refs s.last
    · have E := Lib.hid (store_head (head_sp h2))
      rw [h2] at HSP
      clear h2 hnA hnB
      go_enter Tryz.func52, Tryz.ntmps52
      go_wp2_with fail
      refine Calls.mono (HSP.out _ HBw.out) ?_
      rintro e w2 ⟨rfl, hww2⟩
      have HB2 := Lib.hid (below_below HBw.out hww2)
      clear hww2
      go_wp2_with fail
      go_ret
      exact ⟨ret_bool E.out.symm, HB2.out⟩
    · obtain ⟨hA64, hB64⟩ := space_lens h2
      have e2 : nA = 64 := by omega
      have e3 : nB = 64 := by omega
      subst e2
      subst e3
      rw [h2] at HSP
      cases h3 : inB s.txg 1 900
      · have E := Lib.hid (store_head (head_txg h3))
        clear h2 hnA hnB
        go_enter Tryz.func52, Tryz.ntmps52
        go_wp2_with fail
        refine Calls.mono (HSP.out _ HBw.out) ?_
        rintro e w2 ⟨rfl, hww2⟩
        have HB2 := Lib.hid (below_below HBw.out hww2)
        have BX2 := Lib.hid (BXw.out.below hww2)
        have hw2 := BX2.out.lt
        have bx2 := BX2.out.cell
        clear hww2 bx bl
        go_wp2_with fail
        refine Calls.mono (l6In_any _ _ _ _) ?_
        rintro e w3 ⟨rfl, rfl⟩
        go_wp2_with fail
        go_ret
        exact ⟨ret_bool E.out.symm, HB2.out⟩
      · obtain ⟨ht1, ht2⟩ := inB_true h3
        cases h4 : inB s.keep 0 (s.txg - 1)
        · have E := Lib.hid (store_head (head_keep h4))
          clear h2 hnA hnB
          go_enter Tryz.func52, Tryz.ntmps52
          go_wp2_with fail
          refine Calls.mono (HSP.out _ HBw.out) ?_
          rintro e w2 ⟨rfl, hww2⟩
          have HB2 := Lib.hid (below_below HBw.out hww2)
          have BX2 := Lib.hid (BXw.out.below hww2)
          have hw2 := BX2.out.lt
          have bx2 := BX2.out.cell
          clear hww2 bx bl
          go_wp2_with fail
          refine Calls.mono (l6In_any _ _ _ _) ?_
          rintro e w3 ⟨rfl, rfl⟩
          go_wp2_with fail
          refine Calls.mono (l6In_any _ _ _ _) ?_
          rintro e w3 ⟨rfl, rfl⟩
          go_wp2_with fail
          go_ret
          exact ⟨ret_bool E.out.symm, HB2.out⟩
        · have HD := Lib.hid (head_yes h1 h2 h3 h4)
          have HNN := Lib.hid (fun j (hj : j < 64) => space_nn h2 hj)
          obtain ⟨hk1, hk2⟩ := inB_true h4
          clear h2 hnA hnB
          go_enter Tryz.func52, Tryz.ntmps52
          go_wp2_with fail
          refine Calls.mono (HSP.out _ HBw.out) ?_
          rintro e w2 ⟨rfl, hww2⟩
          have HB2 := Lib.hid (below_below HBw.out hww2)
          have BX2 := Lib.hid (BXw.out.below hww2)
          have hw2 := BX2.out.lt
          have bx2 := BX2.out.cell
          clear hww2 bx bl
          go_wp2_with fail
          refine Calls.mono (l6In_any _ _ _ _) ?_
          rintro e w3 ⟨rfl, rfl⟩
          go_wp2_with fail
          refine Calls.mono (l6In_any _ _ _ _) ?_
          rintro e w3 ⟨rfl, rfl⟩
          clear HSP
          have HRS := Lib.hid (fun W (hB : Below w.heap.size w W) => HK.out.rd.below hB)
          have HRW := Lib.hid (fun W (hB : Below w.heap.size w W) k (hk : k < 64) => str_at (k := k) (HRS.out W hB).rows (by rw [h1]; exact hk))
          have HAW := Lib.hid (fun W (hB : Below w.heap.size w W) k (hk : k < 64) => num_at (k := k) (HRS.out W hB).refs (by rw [hA64]; exact hk))
          have HLW := Lib.hid (fun W (hB : Below w.heap.size w W) k (hk : k < 64) => num_at (k := k) (HRS.out W hB).last (by rw [hB64]; exact hk))
          have HNO := Lib.hid (fun k (hk : k < 64) (h : ((s.rows.getD k ⟨#[]⟩).toList == (⟨#[]⟩ : ByteArray).toList) ≠ (s.refs.getD k 0 == 0)) => store_row (s := s) (k := k) hk (row_no (.inr h)))
          have HNS := Lib.hid (fun k (hk : k < 64) (h : ¬ ((s.rows.getD k ⟨#[]⟩).size ≤ 128 ∧ s.last.getD k 0 ≤ s.txg)) => store_row (s := s) (k := k) hk (row_no (.inl h)))
          have HYE := Lib.hid (fun k (hk : k < 64) (h1 : (s.rows.getD k ⟨#[]⟩).size ≤ 128) (h3 : s.last.getD k 0 ≤ s.txg) (h2 : ((s.rows.getD k ⟨#[]⟩).toList == (⟨#[]⟩ : ByteArray).toList) = (s.refs.getD k 0 == 0)) => row_yes (s := s) (i := k) h1 h3 h2)
          obtain ⟨bR, oR, rfl, _, _⟩ := HRW.out w2 HB2.out 0 (by omega)
          obtain ⟨bA, oA, rfl, _, _⟩ := HAW.out w2 HB2.out 0 (by omega)
          obtain ⟨bL, oL, rfl, _, _⟩ := HLW.out w2 HB2.out 0 (by omega)
          clear hA64 hB64 h1
          go_wp2_with fail
          go_loopw [3] (fun i wr => ∃ k : Nat, k ≤ 64 ∧ i = .int .i64 k ∧ Hid (∀ i, i < k → rowB s i = true) ∧ Hid (Below w.heap.size w wr) ∧ Hid (BoxAt wr w.heap.size #[.slice (some ⟨bR, oR, none⟩) 64 cR, .slice (some ⟨bA, oA, none⟩) 64 cA, .slice (some ⟨bL, oL, none⟩) 64 cB, .int .i64 s.txg, .slice G s.gone.length cG, .int .i64 s.keep, .slice D s.dead.length cD, .bool s.same] 38)) (fun i _ => 64 - (intOf i).toNat)
          case atStart => exact ⟨0, Nat.zero_le _, rfl, Lib.hid (fun i hi => by omega), HB2, BX2⟩
          case round =>
            obtain ⟨k, hk, rfl, HO, HB, BX⟩ := hrel
            have bx := BX.out.cell
            have bl := BX.out.lt
            by_cases hlt : k < 64
            · obtain ⟨_, _, hq1, hb1, c1⟩ := HRW.out wr HB.out k hlt
              obtain ⟨_, _, hq2, hb2, c2⟩ := HAW.out wr HB.out k hlt
              obtain ⟨_, _, hq3, hb3, c3⟩ := HLW.out wr HB.out k hlt
              cases hq1
              cases hq2
              cases hq3
              have HNO2 := Lib.hid (HNO.out k hlt)
              have HNS2 := Lib.hid (HNS.out k hlt)
              have HYE2 := Lib.hid (HYE.out k hlt)
              generalize s.rows.getD k ⟨#[]⟩ = row at *
              generalize s.refs.getD k 0 = n at *
              generalize s.last.getD k 0 = la at *
              by_cases hs : row.size ≤ 128
              · have hsb : decide ((128 : Int) < (row.size : Int)) = false := decide_eq_false (by omega)
                by_cases hm : (row.toList == (⟨#[]⟩ : ByteArray).toList) = (n == 0)
                · obtain ⟨eb, heb⟩ : ∃ eb, (n == 0) = eb := ⟨_, rfl⟩
                  have hm1 : (row.toList == (⟨#[]⟩ : ByteArray).toList) = eb := hm.trans heb
                  have hm2 : row.toList.isEmpty = eb := (emp_eq _).symm.trans hm1
                  by_cases hl : la ≤ s.txg
                  · have hlb : decide (s.txg < la) = false := decide_eq_false (by omega)
                    have HY := Lib.hid (HYE2.out hs hl hm)
                    have HO2 := Lib.hid (show ∀ i, i < k + 1 → rowB s i = true from fun i hi => by
                      rcases Nat.lt_or_ge i k with h' | h'
                      · exact HO.out i h'
                      · have : i = k := by omega
                        subst this; exact HY.out)
                    clear HNO2 HNS2 HYE2 hm
                    cases eb
                    all_goals
                      go_wp2_with fail
                      refine wp_quiet_b (by kernel_rfl) (by kernel_rfl) (fun hgrow => ?_)
                      repeat (go_big_quiet_step (fail))
                      refine wpQuiet_nil ?_
                      intro w3 hww3
                      replace hww3 := below_of_regrown hww3
                      clear hgrow
                      have HB3 := Lib.hid (below_below HB.out hww3)
                      have BX3 := Lib.hid (BX.out.below hww3)
                      clear hww3
                      go_wp2_with fail
                      go_roundw
                      case rel => exact ⟨k + 1, by omega, by go_num, HO2, HB3, BX3⟩
                      case measure => simp [intOf]; omega
                  · have hlb : decide (s.txg < la) = true := decide_eq_true (by omega)
                    have E := Lib.hid (HNS2.out (fun h => hl h.2))
                    clear HNO2 HNS2 HYE2 hm
                    cases eb
                    all_goals
                      go_wp2_with fail
                      refine wp_quiet_b (by kernel_rfl) (by kernel_rfl) (fun hgrow => ?_)
                      repeat (go_big_quiet_step (fail))
                      refine wpQuiet_nil ?_
                      intro w3 hww3
                      replace hww3 := below_of_regrown hww3
                      clear hgrow
                      have HB3 := Lib.hid (below_below HB.out hww3)
                      clear hww3
                      go_wp2_with fail
                      go_ret
                      exact ⟨ret_bool E.out.symm, HB3.out⟩
                · have E := Lib.hid (HNO2.out hm)
                  obtain ⟨eb, heb⟩ : ∃ eb, (n == 0) = eb := ⟨_, rfl⟩
                  have hm1 : (row.toList == (⟨#[]⟩ : ByteArray).toList) = !eb := by
                    rw [heb] at hm
                    cases eb
                    · simpa using hm
                    · simpa using hm
                  have hm2 : row.toList.isEmpty = !eb := (emp_eq _).symm.trans hm1
                  clear HNO2 HNS2 HYE2 hm
                  cases eb
                  all_goals
                    simp only [Bool.not_true, Bool.not_false] at hm1 hm2
                    go_wp2_with fail
                    refine wp_quiet_b (by kernel_rfl) (by kernel_rfl) (fun hgrow => ?_)
                    repeat (go_big_quiet_step (fail))
                    refine wpQuiet_nil ?_
                    intro w3 hww3
                    replace hww3 := below_of_regrown hww3
                    clear hgrow
                    have HB3 := Lib.hid (below_below HB.out hww3)
                    clear hww3
                    go_wp2_with fail
                    go_ret
                    exact ⟨ret_bool E.out.symm, HB3.out⟩
              · have hsb : decide ((128 : Int) < (row.size : Int)) = true := decide_eq_true (by omega)
                have E := Lib.hid (HNS2.out (fun h => hs h.1))
                clear HNO2 HNS2 HYE2
                go_wp2_with fail
                refine wp_quiet_b (by kernel_rfl) (by kernel_rfl) (fun hgrow => ?_)
                repeat (go_big_quiet_step (fail))
                refine wpQuiet_nil ?_
                intro w3 hww3
                replace hww3 := below_of_regrown hww3
                clear hgrow
                have HB3 := Lib.hid (below_below HB.out hww3)
                clear hww3
                go_wp2_with fail
                go_ret
                exact ⟨ret_bool E.out.symm, HB3.out⟩
            · obtain rfl : k = 64 := by omega
              clear HRW HLW HNO HNS HYE
              obtain ⟨wz, rfl⟩ : ∃ wz, wz = wr := ⟨wr, rfl⟩
              have hmk : ∀ W : World, (Instr.makeSlice 23 (.int .i64 64) (.int .i64 64)).run Tryz.prog W = .ok (.slice (some ⟨W.heap.size, 0, none⟩) 64 64) (W.alloc (zerosN 64)) := make_N 64 (by omega)
              have hB3 := below_alloc (Below.refl wz.heap.size wz) (zerosN 64)
              have S0 := Lib.hid (SCnt.mk (w := w) (b := wz.heap.size) (s := s) (k := 0) (fun i p hi => by omega) (by rw [List.take_zero, cntRow_nil]; exact own_zerosN (n := 64) (by omega) (by omega) (hp_new rfl)) (fun j hj => by rw [List.take_zero, cnt_nil]; exact HNN.out j hj) (BX.out.below hB3) (below_below HB.out hB3))
              clear hB3
              go_wp2_with fail
              go_loopw [5] (fun i wr => ∃ k : Nat, k ≤ s.gone.length + s.dead.length ∧ i = .int .i64 k ∧ Hid (SCnt w wz.heap.size #[.slice (some ⟨bR, oR, none⟩) 64 cR, .slice (some ⟨bA, oA, none⟩) 64 cA, .slice (some ⟨bL, oL, none⟩) 64 cB, .int .i64 s.txg, .slice G s.gone.length cG, .int .i64 s.keep, .slice D s.dead.length cD, .bool s.same] s k wr)) (fun i _ => s.gone.length + s.dead.length - (intOf i).toNat)
              case atStart => exact ⟨0, Nat.zero_le _, rfl, S0⟩
              case round =>
                clear S0 BX BX2 bx HB2 hw2
                obtain ⟨k, hk, rfl, HC⟩ := hrel
                have bxq := HC.out.box.cell
                have blq := HC.out.box.lt
                by_cases hlt : k < s.gone.length + s.dead.length
                · by_cases hg : k < s.gone.length
                  · obtain ⟨b1, off, p, rfl, hb, he, c0, c1, c2, c3, c4⟩ := (HRS.out wr HC.out.bel).gone.ptr hg
                    have HT := Lib.hid (show topAt s k = s.txg - 1 by rw [topAt, if_pos hg])
                    rw [← List.getElem?_append_left (l₂ := s.dead) hg] at he
                    have HE := Lib.hid he
                    have HPO := Lib.hid (specPtrOk_any p)
                    have HH := Lib.hid (specPtrHole_any p)
                    have HPV := Lib.hid (show p.v = .agg #[.int .i64 p.at_, .int .i64 p.birth, .int .i64 p.size, .int .i64 p.sum, .int .i64 p.level] from rfl)
                    rw [HPV.out] at HPO HH
                    clear he
                    have HCp := Lib.hid (HC.out.below (below_alloc (Below.refl wr.heap.size wr) (.cells #[.int .i64 p.at_, .int .i64 p.birth, .int .i64 p.size, .int .i64 p.sum, .int .i64 p.level] 40)))
                    have BXp := Lib.hid (box_new wr #[.int .i64 p.at_, .int .i64 p.birth, .int .i64 p.size, .int .i64 p.sum, .int .i64 p.level] 40)
                    cases hok : ptrB p
                    · rw [hok] at HPO
                      have E := Lib.hid (scnt_bad HE.out (gone_no (.inl hok)))
                      clear hok
                      go_wp2_with fail
                      refine Calls.mono (HPO.out _) ?_
                      rintro e w2 ⟨rfl, hB⟩
                      have C2 := Lib.hid (HCp.out.below hB)
                      clear hB
                      go_wp2_with fail
                      go_ret
                      exact ⟨ret_bool E.out.symm, C2.out.bel⟩
                    · rw [hok] at HPO
                      cases hho : holeB p
                      · rw [hho] at HH
                        obtain ⟨hp1, hp2, hp3, hp4⟩ := ptr_in hok hho
                        by_cases hbt : p.birth ≤ s.txg - 1
                        · have HY := Lib.hid (show goneB (topAt s k) p = true by rw [HT.out]; exact gone_yes hok hho hbt)
                          clear hok hho
                          go_wp2_with fail
                          refine Calls.mono (HPO.out _) ?_
                          rintro e w2 ⟨rfl, hB⟩
                          have C2 := Lib.hid (HCp.out.below hB)
                          have BX2 := Lib.hid (BXp.out.below hB)
                          have bx2 := BX2.out.cell
                          clear hB
                          go_wp2_with fail
                          refine Calls.mono (HH.out _) ?_
                          rintro e w3 ⟨rfl, hB⟩
                          have C3 := Lib.hid (C2.out.below hB)
                          have BX3 := Lib.hid (BX2.out.below hB)
                          have bx3 := BX3.out.cell
                          have bl3 := BX3.out.lt
                          have s3 := C3.out.box.cell
                          have sl3 := C3.out.box.lt
                          have hc3 : w3.cell? ⟨wz.heap.size, p.at_.toNat, none⟩ = some (.int .i64 (cnt ((s.gone ++ s.dead).take k) p.at_.toNat)) := by
                            obtain ⟨bq, oq, hq1, hq2, hq3⟩ := num_at (k := p.at_.toNat) (own_rdG C3.out.own).1 (by rw [cntRow_len]; omega)
                            cases hq1
                            rw [Nat.zero_add, cntRow_get _ (by omega)] at hq3
                            exact hq3
                          have hf3 : w3.frozen? ⟨wz.heap.size, p.at_.toNat, none⟩ = false := own_frozG C3.out.own _
                          have hzl : wz.heap.size < wr.heap.size := (own_in HC.out.own wz.heap.size (by simp [exOf', Value.ownBlock])).2
                          have hzl3 : wz.heap.size < w3.heap.size := (own_in C3.out.own wz.heap.size (by simp [exOf', Value.ownBlock])).2
                          have hp0 : (0 : Int) ≤ p.at_ := by omega
                          have hp64 : p.at_ < 64 := by omega
                          have HN := Lib.hid (scnt_step HC.out HE.out HY.out hp0 hp64 C3.out.own)
                          have HOV := Lib.hid (fun h => scnt_over (s := s) (k := k + 1) (j := p.at_.toNat) (by omega) h)
                          rw [take_push HE.out, cnt_push, if_pos (show p.at_ = ((p.at_.toNat : Nat) : Int) by omega)] at HOV
                          have HC4 := Lib.hid (fun W hO => cnt_cell (W := W) (w := w) (b := wz.heap.size) HE.out hp0 hp64 hO)
                          have hcb : 0 ≤ cnt ((s.gone ++ s.dead).take k) p.at_.toNat ∧ cnt ((s.gone ++ s.dead).take k) p.at_.toNat ≤ 4194304 := by
                            refine ⟨cnt_nn _ _, ?_⟩
                            have h1 := cnt_le ((s.gone ++ s.dead).take k) p.at_.toNat
                            rw [List.length_take] at h1
                            omega
                          obtain ⟨hcb0, hcb1⟩ := hcb
                          generalize cnt ((s.gone ++ s.dead).take k) p.at_.toNat = cv at *
                          have K4 := ((Kp.refl [wz.heap.size] w3).setCell (p := ⟨wz.heap.size, p.at_.toNat, none⟩) (.inl (by simp)) (.int .i64 (cv + 1))).drew
                          obtain ⟨w4, hw4⟩ : ∃ w4, w4 = (w3.setCell ⟨wz.heap.size, p.at_.toNat, none⟩ (.int .i64 (cv + 1))).drew := ⟨_, rfl⟩
                          rw [← hw4] at HN K4
                          have BX4 := Lib.hid (BX3.out.kp K4 (by simp; omega))
                          have S4 := Lib.hid (C3.out.box.kp K4 (by simp; omega))
                          have HB4 := Lib.hid (below_kp C3.out.bel K4 (fun x hx => by simp at hx; omega))
                          clear bxq bx2 hB K4
                          go_wp2_with fail
                          go_still_tail 10, (by kernel_rfl)
                          go_wp2_with fail
                          rw [← hw4]
                          have bx4 := BX4.out.cell
                          have bl4 := BX4.out.lt
                          have s4 := S4.out.cell
                          have sl4 := S4.out.lt
                          have hzl4 : wz.heap.size < w4.heap.size := (own_in HN.out.2.1 wz.heap.size (by simp [exOf', Value.ownBlock])).2
                          obtain ⟨bq, oq, hq1, hb4, hr4⟩ := HAW.out w4 HB4.out p.at_.toNat (by omega)
                          cases hq1
                          have hc4 : w4.cell? ⟨wz.heap.size, p.at_.toNat, none⟩ = some (.int .i64 (cv + 1)) := HC4.out w4 HN.out.2.1
                          generalize s.refs.getD p.at_.toNat 0 = n at *
                          clear hw4 bx3 s3 hc3 hf3
                          by_cases hcn : cv + 1 ≤ n
                          · have hcd : decide (n < cv + 1) = false := decide_eq_false (by omega)
                            have HC2 := Lib.hid (HN.out.2.2 hcn)
                            refine wp_quiet_b (by kernel_rfl) (by kernel_rfl) (fun hgrow => ?_)
                            repeat (go_big_quiet_step (fail))
                            refine wpQuiet_nil ?_
                            intro w5 hww5
                            replace hww5 := below_of_regrown hww5
                            clear hgrow
                            have C5 := Lib.hid (SCnt.mk HN.out.1 (HN.out.2.1.below hww5) HC2.out (S4.out.below hww5) (below_below HB4.out hww5))
                            clear hww5
                            go_wp2_with fail
                            go_roundw
                            case rel =>
                              repeat apply Exists.intro
                              refine ⟨?_, ?_⟩
                              rotate_left 1
                              · repeat' apply And.intro
                                all_goals rfl
                              · exact ⟨k + 1, by omega, by go_num, C5⟩
                            case measure => simp [intOf]; omega
                          · have hcd : decide (n < cv + 1) = true := decide_eq_true (by omega)
                            have E := Lib.hid (HOV.out (by omega))
                            refine wp_quiet_b (by kernel_rfl) (by kernel_rfl) (fun hgrow => ?_)
                            repeat (go_big_quiet_step (fail))
                            refine wpQuiet_nil ?_
                            intro w5 hww5
                            replace hww5 := below_of_regrown hww5
                            clear hgrow
                            have HB5 := Lib.hid (below_below HB4.out hww5)
                            clear hww5
                            go_wp2_with fail
                            go_ret
                            exact ⟨ret_bool E.out.symm, HB5.out⟩
                        · have E := Lib.hid (scnt_bad HE.out (gone_no (.inr (.inr (by rw [HT.out]; omega)))))
                          clear hok hho
                          go_wp2_with fail
                          refine Calls.mono (HPO.out _) ?_
                          rintro e w2 ⟨rfl, hB⟩
                          have C2 := Lib.hid (HCp.out.below hB)
                          have BX2 := Lib.hid (BXp.out.below hB)
                          have bx2 := BX2.out.cell
                          clear hB
                          go_wp2_with fail
                          refine Calls.mono (HH.out _) ?_
                          rintro e w3 ⟨rfl, hB⟩
                          have C3 := Lib.hid (C2.out.below hB)
                          have BX3 := Lib.hid (BX2.out.below hB)
                          have bx3 := BX3.out.cell
                          clear hB bx2 bxq
                          go_wp2_with fail
                          go_ret
                          exact ⟨ret_bool E.out.symm, C3.out.bel⟩
                      · rw [hho] at HH
                        have E := Lib.hid (scnt_bad HE.out (gone_no (.inr (.inl hho))))
                        clear hok hho
                        go_wp2_with fail
                        refine Calls.mono (HPO.out _) ?_
                        rintro e w2 ⟨rfl, hB⟩
                        have C2 := Lib.hid (HCp.out.below hB)
                        have BX2 := Lib.hid (BXp.out.below hB)
                        have bx2 := BX2.out.cell
                        clear hB
                        go_wp2_with fail
                        refine Calls.mono (HH.out _) ?_
                        rintro e w3 ⟨rfl, hB⟩
                        have C3 := Lib.hid (C2.out.below hB)
                        clear hB bx2 bxq
                        go_wp2_with fail
                        go_ret
                        exact ⟨ret_bool E.out.symm, C3.out.bel⟩
                  · obtain ⟨j, hj⟩ : ∃ j, k = s.gone.length + j := ⟨k - s.gone.length, by omega⟩
                    obtain ⟨b1, off, p, rfl, hb, he, c0, c1, c2, c3, c4⟩ := (HRS.out wr HC.out.bel).dead.ptr (k := j) (by omega)
                    have HT := Lib.hid (show topAt s k = s.keep by rw [topAt, if_neg hg])
                    replace he : (s.gone ++ s.dead)[k]? = some p := by rw [List.getElem?_append_right (by omega), show k - s.gone.length = j by omega]; exact he
                    subst hj
                    have hj0 : ((s.gone.length + j : Nat) : Int) - (s.gone.length : Int) = (j : Int) := by omega
                    have HE := Lib.hid he
                    have HPO := Lib.hid (specPtrOk_any p)
                    have HH := Lib.hid (specPtrHole_any p)
                    have HPV := Lib.hid (show p.v = .agg #[.int .i64 p.at_, .int .i64 p.birth, .int .i64 p.size, .int .i64 p.sum, .int .i64 p.level] from rfl)
                    rw [HPV.out] at HPO HH
                    clear he
                    have HCp := Lib.hid (HC.out.below (below_alloc (Below.refl wr.heap.size wr) (.cells #[.int .i64 p.at_, .int .i64 p.birth, .int .i64 p.size, .int .i64 p.sum, .int .i64 p.level] 40)))
                    have BXp := Lib.hid (box_new wr #[.int .i64 p.at_, .int .i64 p.birth, .int .i64 p.size, .int .i64 p.sum, .int .i64 p.level] 40)
                    cases hok : ptrB p
                    · rw [hok] at HPO
                      have E := Lib.hid (scnt_bad HE.out (gone_no (.inl hok)))
                      clear hok
                      go_wp2_with fail
                      refine Calls.mono (HPO.out _) ?_
                      rintro e w2 ⟨rfl, hB⟩
                      have C2 := Lib.hid (HCp.out.below hB)
                      clear hB
                      go_wp2_with fail
                      go_ret
                      exact ⟨ret_bool E.out.symm, C2.out.bel⟩
                    · rw [hok] at HPO
                      cases hho : holeB p
                      · rw [hho] at HH
                        obtain ⟨hp1, hp2, hp3, hp4⟩ := ptr_in hok hho
                        by_cases hbt : p.birth ≤ s.keep
                        · have HY := Lib.hid (show goneB (topAt s (s.gone.length + j)) p = true by rw [HT.out]; exact gone_yes hok hho hbt)
                          clear hok hho
                          go_wp2_with fail
                          refine Calls.mono (HPO.out _) ?_
                          rintro e w2 ⟨rfl, hB⟩
                          have C2 := Lib.hid (HCp.out.below hB)
                          have BX2 := Lib.hid (BXp.out.below hB)
                          have bx2 := BX2.out.cell
                          clear hB
                          go_wp2_with fail
                          refine Calls.mono (HH.out _) ?_
                          rintro e w3 ⟨rfl, hB⟩
                          have C3 := Lib.hid (C2.out.below hB)
                          have BX3 := Lib.hid (BX2.out.below hB)
                          have bx3 := BX3.out.cell
                          have bl3 := BX3.out.lt
                          have s3 := C3.out.box.cell
                          have sl3 := C3.out.box.lt
                          have hc3 : w3.cell? ⟨wz.heap.size, p.at_.toNat, none⟩ = some (.int .i64 (cnt ((s.gone ++ s.dead).take (s.gone.length + j)) p.at_.toNat)) := by
                            obtain ⟨bq, oq, hq1, hq2, hq3⟩ := num_at (k := p.at_.toNat) (own_rdG C3.out.own).1 (by rw [cntRow_len]; omega)
                            cases hq1
                            rw [Nat.zero_add, cntRow_get _ (by omega)] at hq3
                            exact hq3
                          have hf3 : w3.frozen? ⟨wz.heap.size, p.at_.toNat, none⟩ = false := own_frozG C3.out.own _
                          have hzl : wz.heap.size < wr.heap.size := (own_in HC.out.own wz.heap.size (by simp [exOf', Value.ownBlock])).2
                          have hzl3 : wz.heap.size < w3.heap.size := (own_in C3.out.own wz.heap.size (by simp [exOf', Value.ownBlock])).2
                          have hp0 : (0 : Int) ≤ p.at_ := by omega
                          have hp64 : p.at_ < 64 := by omega
                          have HN := Lib.hid (scnt_step HC.out HE.out HY.out hp0 hp64 C3.out.own)
                          have HOV := Lib.hid (fun h => scnt_over (s := s) (k := s.gone.length + j + 1) (j := p.at_.toNat) (by omega) h)
                          rw [take_push HE.out, cnt_push, if_pos (show p.at_ = ((p.at_.toNat : Nat) : Int) by omega)] at HOV
                          have HC4 := Lib.hid (fun W hO => cnt_cell (W := W) (w := w) (b := wz.heap.size) HE.out hp0 hp64 hO)
                          have hcb : 0 ≤ cnt ((s.gone ++ s.dead).take (s.gone.length + j)) p.at_.toNat ∧ cnt ((s.gone ++ s.dead).take (s.gone.length + j)) p.at_.toNat ≤ 4194304 := by
                            refine ⟨cnt_nn _ _, ?_⟩
                            have h1 := cnt_le ((s.gone ++ s.dead).take (s.gone.length + j)) p.at_.toNat
                            rw [List.length_take] at h1
                            omega
                          obtain ⟨hcb0, hcb1⟩ := hcb
                          generalize cnt ((s.gone ++ s.dead).take (s.gone.length + j)) p.at_.toNat = cv at *
                          have K4 := ((Kp.refl [wz.heap.size] w3).setCell (p := ⟨wz.heap.size, p.at_.toNat, none⟩) (.inl (by simp)) (.int .i64 (cv + 1))).drew
                          obtain ⟨w4, hw4⟩ : ∃ w4, w4 = (w3.setCell ⟨wz.heap.size, p.at_.toNat, none⟩ (.int .i64 (cv + 1))).drew := ⟨_, rfl⟩
                          rw [← hw4] at HN K4
                          have BX4 := Lib.hid (BX3.out.kp K4 (by simp; omega))
                          have S4 := Lib.hid (C3.out.box.kp K4 (by simp; omega))
                          have HB4 := Lib.hid (below_kp C3.out.bel K4 (fun x hx => by simp at hx; omega))
                          clear bxq bx2 hB K4
                          go_wp2_with fail
                          go_still_tail 10, (by kernel_rfl)
                          go_wp2_with fail
                          rw [← hw4]
                          have bx4 := BX4.out.cell
                          have bl4 := BX4.out.lt
                          have s4 := S4.out.cell
                          have sl4 := S4.out.lt
                          have hzl4 : wz.heap.size < w4.heap.size := (own_in HN.out.2.1 wz.heap.size (by simp [exOf', Value.ownBlock])).2
                          obtain ⟨bq, oq, hq1, hb4, hr4⟩ := HAW.out w4 HB4.out p.at_.toNat (by omega)
                          cases hq1
                          have hc4 : w4.cell? ⟨wz.heap.size, p.at_.toNat, none⟩ = some (.int .i64 (cv + 1)) := HC4.out w4 HN.out.2.1
                          generalize s.refs.getD p.at_.toNat 0 = n at *
                          clear hw4 bx3 s3 hc3 hf3
                          by_cases hcn : cv + 1 ≤ n
                          · have hcd : decide (n < cv + 1) = false := decide_eq_false (by omega)
                            have HC2 := Lib.hid (HN.out.2.2 hcn)
                            refine wp_quiet_b (by kernel_rfl) (by kernel_rfl) (fun hgrow => ?_)
                            repeat (go_big_quiet_step (fail))
                            refine wpQuiet_nil ?_
                            intro w5 hww5
                            replace hww5 := below_of_regrown hww5
                            clear hgrow
                            have C5 := Lib.hid (SCnt.mk HN.out.1 (HN.out.2.1.below hww5) HC2.out (S4.out.below hww5) (below_below HB4.out hww5))
                            clear hww5
                            go_wp2_with fail
                            go_roundw
                            case rel =>
                              repeat apply Exists.intro
                              refine ⟨?_, ?_⟩
                              rotate_left 1
                              · repeat' apply And.intro
                                all_goals rfl
                              · exact ⟨s.gone.length + j + 1, by omega, by go_num, C5⟩
                            case measure => simp [intOf]; omega
                          · have hcd : decide (n < cv + 1) = true := decide_eq_true (by omega)
                            have E := Lib.hid (HOV.out (by omega))
                            refine wp_quiet_b (by kernel_rfl) (by kernel_rfl) (fun hgrow => ?_)
                            repeat (go_big_quiet_step (fail))
                            refine wpQuiet_nil ?_
                            intro w5 hww5
                            replace hww5 := below_of_regrown hww5
                            clear hgrow
                            have HB5 := Lib.hid (below_below HB4.out hww5)
                            clear hww5
                            go_wp2_with fail
                            go_ret
                            exact ⟨ret_bool E.out.symm, HB5.out⟩
                        · have E := Lib.hid (scnt_bad HE.out (gone_no (.inr (.inr (by rw [HT.out]; omega)))))
                          clear hok hho
                          go_wp2_with fail
                          refine Calls.mono (HPO.out _) ?_
                          rintro e w2 ⟨rfl, hB⟩
                          have C2 := Lib.hid (HCp.out.below hB)
                          have BX2 := Lib.hid (BXp.out.below hB)
                          have bx2 := BX2.out.cell
                          clear hB
                          go_wp2_with fail
                          refine Calls.mono (HH.out _) ?_
                          rintro e w3 ⟨rfl, hB⟩
                          have C3 := Lib.hid (C2.out.below hB)
                          have BX3 := Lib.hid (BX2.out.below hB)
                          have bx3 := BX3.out.cell
                          clear hB bx2 bxq
                          go_wp2_with fail
                          go_ret
                          exact ⟨ret_bool E.out.symm, C3.out.bel⟩
                      · rw [hho] at HH
                        have E := Lib.hid (scnt_bad HE.out (gone_no (.inr (.inl hho))))
                        clear hok hho
                        go_wp2_with fail
                        refine Calls.mono (HPO.out _) ?_
                        rintro e w2 ⟨rfl, hB⟩
                        have C2 := Lib.hid (HCp.out.below hB)
                        have BX2 := Lib.hid (BXp.out.below hB)
                        have bx2 := BX2.out.cell
                        clear hB
                        go_wp2_with fail
                        refine Calls.mono (HH.out _) ?_
                        rintro e w3 ⟨rfl, hB⟩
                        have C3 := Lib.hid (C2.out.below hB)
                        clear hB bx2 bxq
                        go_wp2_with fail
                        go_ret
                        exact ⟨ret_bool E.out.symm, C3.out.bel⟩
                · obtain rfl : k = s.gone.length + s.dead.length := by omega
                  have E := Lib.hid (scnt_end HD.out HO.out HC.out)
                  go_wp2_with fail
                  go_ret
                  exact ⟨ret_bool E.out.symm, HC.out.bel⟩
  · have E := Lib.hid (store_head (head_len h1))
    have h1' : ((nR : Int) != 64) = true := by
      simp only [bne_iff_ne, ne_eq]
      omega
    clear h1 hnR hnA hnB
    go_enter Tryz.func52, Tryz.ntmps52
    go_wp2_with fail
    go_ret
    exact ⟨ret_bool E.out.symm, HBw.out⟩

end Go.Proofs.YtafadedacbjioaaGreatDoor

/- StoreRead: both texts; a pointer that came in. -/
namespace Go.Proofs.YtafadedacbjioaaGreatDoor
open Go.RowKit Go.Sort
set_option maxRecDepth 100000
set_option linter.unusedVariables false
set_option linter.unusedSimpArgs false

def srT (s : St) (p : Pt) : ByteArray := if (storeB s && ptrB p) = true then readT s.rows p else ⟨#[]⟩
def srB (s : St) (p : Pt) : Bool := storeB s && (ptrB p && readB s.rows p)
theorem store_rows {s : St} (h : storeB s = true) : s.rows.length = 64 := by
  simp only [storeB, headB, Bool.and_eq_true, decide_eq_true_eq] at h
  exact h.1.1
theorem sr_no1 {s : St} {p : Pt} (h : storeB s = false) : srT s p = ⟨#[]⟩ ∧ srB s p = false := by simp [srT, srB, h]
theorem sr_no2 {s : St} {p : Pt} (h : ptrB p = false) : srT s p = ⟨#[]⟩ ∧ srB s p = false := by simp [srT, srB, h]
theorem sr_yes {s : St} {p : Pt} (h : storeB s = true) (h2 : ptrB p = true) : srT s p = readT s.rows p ∧ srB s p = readB s.rows p := by simp [srT, srB, h, h2]

section
open Go.ChangeShapes Go.WideShapes Go.ChangeAt
/-- A pointer that came in. -/
theorem open_ptr {H : Type} {enc : TypeId × Value → H} {W : World} {r : Reach} {b0 base : Nat} {v : Value} {dd : DataW H} {p : List MemPlace} (hval : Value.okWide Tryz.prog W r b0 30 v) (h : DataW.Trod enc Tryz.prog W base (fun _ => true) true 30 v dd p) :
    ∃ q : Pt, v = q.v := by
  have c5 : Tryz.prog.cellsOf 30 = 5 := by kernel_rfl
  obtain ⟨⟨cs⟩, rfl, hsz⟩ := okWide_struct Tryz.underlying30 hval
  obtain ⟨fuel, hf⟩ := h
  have hsz' : cs.length = 5 := by rw [← c5]; exact hsz
  obtain ⟨q, hq⟩ := pt_of_trod hsz' (show DataW.trod enc Tryz.prog W base (fun _ => true) true fuel 30 cs = some (dd, p) from hf)
  match cs, hsz' with
  | [x0, x1, x2, x3, x4], _ =>
    have e0 := hq 0 (by omega)
    have e1 := hq 1 (by omega)
    have e2 := hq 2 (by omega)
    have e3 := hq 3 (by omega)
    have e4 := hq 4 (by omega)
    cases e0; cases e1; cases e2; cases e3; cases e4
    exact ⟨q, rfl⟩
end

end Go.Proofs.YtafadedacbjioaaGreatDoor
