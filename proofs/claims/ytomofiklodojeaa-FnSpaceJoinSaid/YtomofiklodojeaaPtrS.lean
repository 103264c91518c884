/- Lists of pointers: what the laws' own helpers over them return; the argument opened. -/
import Derived.Test.YtomofiklodojeaaAppend
import Derived.Test.YtomofiklodojeaaQuiet
import Derived.Test.YtomofiklodojeaaPtr
import Derived.Test.YtomofiklodojeaaTrod
import Derived.Deep.Slices
import Derived.Laws.ResultCell
namespace Go.Proofs.Ytomofiklodojeaa
open Go.RowKit
set_option maxRecDepth 100000
set_option linter.unusedVariables false
set_option linter.unusedSimpArgs false

def encP (p : Pt) : Nat → Value
  | 0 => .int .i64 p.at_
  | 1 => .int .i64 p.birth
  | 2 => .int .i64 p.size
  | 3 => .int .i64 p.sum
  | _ => .int .i64 p.level
theorem oneP : OneC encP := fun x j => by
  rcases j with _ | _ | _ | _ | j <;> rfl
def zeroP : Pt := ⟨0, 0, 0, 0, 0⟩
theorem info_ptr : (Try.prog.info? 41).map (fun i => (i.zero, i.size, i.bytes)) = some (some (.agg #[.int .i64 0, .int .i64 0, .int .i64 0, .int .i64 0, .int .i64 0]), 5, 40) := by kernel_rfl
theorem elP : El 23 41 5 40 := El.mk' Try.underlying23 info_ptr rfl (by omega)

theorem RdT.ptr {w : World} {A : Option Addr} {xs : List Pt} {k : Nat} (h : RdT encP 5 w A xs) (hk : k < xs.length) :
    ∃ b off p, A = some ⟨b, off, none⟩ ∧ b < w.heap.size ∧ xs[k]? = some p ∧ w.cell? ⟨b, off + k * 5, none⟩ = some (.int .i64 p.at_) ∧ w.cell? ⟨b, off + k * 5 + 1, none⟩ = some (.int .i64 p.birth) ∧
      w.cell? ⟨b, off + k * 5 + 2, none⟩ = some (.int .i64 p.size) ∧ w.cell? ⟨b, off + k * 5 + 3, none⟩ = some (.int .i64 p.sum) ∧ w.cell? ⟨b, off + k * 5 + 4, none⟩ = some (.int .i64 p.level) := by
  obtain ⟨b, off, rfl, hb, hc⟩ := h (by omega)
  have he : xs[k]? = some xs[k] := List.getElem?_eq_getElem hk
  exact ⟨b, off, xs[k], rfl, hb, he, hc k _ he 0 (by omega), hc k _ he 1 (by omega), hc k _ he 2 (by omega), hc k _ he 3 (by omega), hc k _ he 4 (by omega)⟩

/-- Element k replaced: its five cells replaced. -/
theorem cellsOf_set5 {α : Type} {enc : α → Nat → Value} (l : List α) (k : Nat) (x : α) (hk : k < l.length) :
    (((((cellsOf enc 5 l).set (k * 5) (enc x 0)).set (k * 5 + 1) (enc x 1)).set (k * 5 + 2) (enc x 2)).set (k * 5 + 3) (enc x 3)).set (k * 5 + 4) (enc x 4) = cellsOf enc 5 (l.set k x) := by
  induction l generalizing k with
  | nil => simp at hk
  | cons y r ih =>
    cases k with
    | zero => simp [cellsOf, List.range_succ]
    | succ k =>
      have := ih k (by simpa using hk)
      simp only [List.set_cons_succ, cellsOf, ← this]
      simp [List.range_succ, Nat.add_mul]

theorem madeP (n : Nat) : (madeCells (Value.agg #[.int .i64 0, .int .i64 0, .int .i64 0, .int .i64 0, .int .i64 0]).cells (n * 5)).toList = cellsOf encP 5 (List.replicate n zeroP) := by
  apply List.ext_getElem?
  intro i
  by_cases hi : i < n * 5
  · have h1 : (List.replicate n zeroP)[i / 5]? = some zeroP := by rw [List.getElem?_replicate, if_pos (by omega)]
    have h2 := cellsOf_get (enc := encP) (sz := 5) _ (i / 5) (i % 5) _ h1 (by omega)
    rw [show i / 5 * 5 + i % 5 = i by omega] at h2
    rw [h2]
    rcases (show i % 5 = 0 ∨ i % 5 = 1 ∨ i % 5 = 2 ∨ i % 5 = 3 ∨ i % 5 = 4 by omega) with e | e | e | e | e <;> simp [madeCells, Value.cells, hi, e, encP, zeroP]
  · rw [List.getElem?_eq_none (by simp [madeCells]; omega), List.getElem?_eq_none (by rw [cellsOf_length, List.length_replicate]; omega)]

theorem ownsRow_belowP {w w' : World} {base : Nat} {e : TypeId} {size : Nat} {v : Value} {n : Nat} {xs : List Value} (h : w.ownsRow base e size v n xs) (hb : Below w.heap.size w w') : w'.ownsRow base e size v n xs := by
  refine ⟨h.1, ?_⟩
  rcases h.2 with h | ⟨g, cap, cur, rfl, hg, hh, r⟩
  · exact .inl h
  · have hlt : g < w.heap.size := by
      rcases Nat.lt_or_ge g w.heap.size with h' | h'
      · exact h'
      · rw [Array.getElem?_eq_none h'] at hh; cases hh
    exact .inr ⟨g, cap, cur, rfl, hg, (hb.block g hlt).trans hh, r⟩

def PPost (w : World) (xs : List Pt) (e : Ending) (w' : World) : Prop := ∃ v, e = .returned v ∧ Own encP 5 41 w.heap.size w' v xs ∧ Below w.heap.size w w'

theorem toPt_any (p : Pt) (w : World) : Calls Try.prog 36 #[p.v] w fun e w' => e = .returned p.v ∧ Below w.heap.size w w' := by
  obtain ⟨a, b, s, u, l⟩ := p
  unfold Pt.v
  dsimp only
  go_enter Try.func36, Try.ntmps36
  go_wp2_with fail
  refine bodyPost_ret (v := .agg #[.int .i64 a, .int .i64 b, .int .i64 s, .int .i64 u, .int .i64 l]) (by simp [results, Try.results36, go_sem]) rfl ⟨rfl, by (repeat (first | assumption | exact Below.refl _ _ | refine below_alloc ?_ _ | refine Below.drew ?_ | refine below_drewN ?_ _ | refine below_set ?_ (by first | exact Nat.le_refl _ | omega | (simp; done) | (simp; omega)) _ | refine below_kp ?_ (by assumption) (by simp) | refine below_below ?_ (by assumption)))⟩

theorem eqPtr_true (p : Pt) (w : World) : Calls Try.prog 61 #[p.v, p.v] w fun e w' => e = .returned (.bool true) ∧ Below w.heap.size w w' := by
  obtain ⟨a, b, s, u, l⟩ := p
  unfold Pt.v
  dsimp only
  go_enter Try.func61, Try.ntmps61
  go_wp2_with fail
  go_ret
  exact ⟨rfl, by (repeat (first | assumption | exact Below.refl _ _ | refine below_alloc ?_ _ | refine Below.drew ?_ | refine below_drewN ?_ _ | refine below_set ?_ (by first | exact Nat.le_refl _ | omega | (simp; done) | (simp; omega)) _ | refine below_kp ?_ (by assumption) (by simp) | refine below_below ?_ (by assumption)))⟩

set_option maxHeartbeats 2000000 in
theorem toPtrS_any (w : World) (A : Option Addr) (cap : Nat) (xs : List Pt) (h : RdT encP 5 w A xs) (hc : xs.length ≤ cap) (hm : xs.length ≤ 1048576) :
    Calls Try.prog 17 #[.slice A xs.length cap] w (PPost w xs) := by
  have HR := Lib.hid h
  clear h
  obtain ⟨i0, hi, hz0, hz1, hz2⟩ := info_parts info_ptr
  go_enter Try.func17, Try.ntmps17
  go_wp2_with (at_make; refine wpList_make_full _ rfl _ _ 23 rfl w.heap.size 41 i0 _ 5 Try.underlying23 hi hz0 hz1 .i64 .i64 _ _ xs.length rfl rfl rfl rfl (by rw [hz2]; omega) (by unfold maxLen; omega) (Nat.le_refl _) ?_; intro w1 hown hgrow)
  have hB1 : Below w.heap.size w w1 := (Below.refl _ _).grown hgrow (Nat.le_refl _) (fun k hk => by cases hk)
  rw [madeP] at hown
  go_loopw [4] (fun i wr => ∃ k : Nat, k ≤ xs.length ∧ i = .int .i64 k ∧ Hid (wr.ownsRow w.heap.size 41 5 (.slice (some ⟨w.heap.size, 0, none⟩) xs.length xs.length) xs.length (cellsOf encP 5 (xs.take k ++ List.replicate (xs.length - k) zeroP))) ∧ Hid (Below w.heap.size w wr)) (fun i _ => xs.length - (intOf i).toNat)
  case atStart => exact ⟨0, Nat.zero_le _, rfl, Lib.hid (by simpa using hown), hB1⟩
  case round =>
    clear hown hgrow hB1
    obtain ⟨k, hk, rfl, HO, HB⟩ := hrel
    by_cases hlt : k < xs.length
    · obtain ⟨b, off, p, rfl, hb, he, c0, c1, c2, c3, c4⟩ := (HR.out.below HB.out).ptr hlt
      have HE := Lib.hid he
      have HT := Lib.hid (toPt_any p)
      obtain ⟨pa, pb, ps, pu, pl⟩ := p
      unfold Pt.v at HT
      dsimp only at c0 c1 c2 c3 c4 HT
      clear he
      go_wp2_with fail
      refine Calls.mono (HT.out _) ?_
      rintro e w2 ⟨rfl, hB2⟩
      have hO2 : w2.ownsRow w.heap.size 41 5 (.slice (some ⟨w.heap.size, 0, none⟩) xs.length xs.length) xs.length (cellsOf encP 5 (xs.take k ++ List.replicate (xs.length - k) zeroP)) := ownsRow_belowP HO.out hB2
      have hl : (cellsOf encP 5 (xs.take k ++ List.replicate (xs.length - k) zeroP)).length = xs.length * 5 := hO2.1
      have hcell : ∀ j, j < 5 → ∃ v, w2.cell? ⟨w.heap.size, k * 5 + j, none⟩ = some v := fun j hj => ⟨_, (hO2.cellAt (k * 5 + j) (by omega)).trans (List.getElem?_eq_getElem (by omega))⟩
      obtain ⟨v0, hv0⟩ := hcell 0 (by omega)
      obtain ⟨v1, hv1⟩ := hcell 1 (by omega)
      obtain ⟨v2, hv2⟩ := hcell 2 (by omega)
      obtain ⟨v3, hv3⟩ := hcell 3 (by omega)
      obtain ⟨v4, hv4⟩ := hcell 4 (by omega)
      rw [Nat.add_zero] at hv0
      have hf0 := hO2.frozenAt (k * 5)
      have hf1 := hO2.frozenAt (k * 5 + 1)
      have hf2 := hO2.frozenAt (k * 5 + 2)
      have hf3 := hO2.frozenAt (k * 5 + 3)
      have hf4 := hO2.frozenAt (k * 5 + 4)
      have HO2 := Lib.hid hO2
      have HB2 := Lib.hid hB2
      clear hO2 hl hB2 hcell
      go_wp2_with fail
      go_roundw
      case rel =>
        refine ⟨k + 1, by omega, by go_num, ?_, ?_⟩
        · have h1 := (((((HO2.out.stored (k * 5) (.int .i64 pa)).1.stored (k * 5 + 1) (.int .i64 pb)).1.stored (k * 5 + 2) (.int .i64 ps)).1.stored (k * 5 + 3) (.int .i64 pu)).1.stored (k * 5 + 4) (.int .i64 pl)).1
          have e := cellsOf_set5 (enc := encP) (xs.take k ++ List.replicate (xs.length - k) zeroP) k ⟨pa, pb, ps, pu, pl⟩ (by simp; omega)
          rw [fill_set xs k ⟨pa, pb, ps, pu, pl⟩ _ HE.out] at e
          rw [← e]
          exact h1
        · have := HB.out
          have := HB2.out
          show Below _ _ _
          (repeat (first | assumption | exact Below.refl _ _ | refine below_alloc ?_ _ | refine Below.drew ?_ | refine below_drewN ?_ _ | refine below_set ?_ (by first | exact Nat.le_refl _ | omega | (simp; done) | (simp; omega)) _ | refine below_kp ?_ (by assumption) (by simp) | refine below_below ?_ (by assumption)))
      case measure => simp [intOf]; omega
    · obtain rfl : k = xs.length := by omega
      go_wp2_with fail
      go_ret
      refine ⟨_, rfl, ?_, HB.out⟩
      have := HO.out
      simpa [Own] using this

set_option maxHeartbeats 1000000 in
theorem eqPtrS_true (w : World) (A B : Option Addr) (cap dap : Nat) (xs : List Pt) (h : RdT encP 5 w A xs) (g : RdT encP 5 w B xs) (hc : xs.length ≤ cap) (hd : xs.length ≤ dap) (hm : cap ≤ 9223372036854775807) :
    Calls Try.prog 19 #[.slice A xs.length cap, .slice B xs.length dap] w fun e w' => e = .returned (.bool true) ∧ Below w.heap.size w w' := by
  have HR := Lib.hid h
  have HG := Lib.hid g
  clear h g
  go_enter Try.func19, Try.ntmps19
  go_wp2_with fail
  go_loopw [5] (fun i wr => ∃ k : Nat, k ≤ xs.length ∧ i = .int .i64 k ∧ Below w.heap.size w wr) (fun i _ => xs.length - (intOf i).toNat)
  case atStart => exact ⟨0, Nat.zero_le _, rfl, Below.refl _ _⟩
  case round =>
    obtain ⟨k, hk, rfl, hB⟩ := hrel
    have HB := Lib.hid hB
    clear hB
    by_cases hlt : k < xs.length
    · obtain ⟨b, off, p, rfl, hb, he, c0, c1, c2, c3, c4⟩ := (HR.out.below HB.out).ptr hlt
      obtain ⟨b', off', p', rfl, hb', he', c0', c1', c2', c3', c4'⟩ := (HG.out.below HB.out).ptr hlt
      obtain rfl : p = p' := by rw [he] at he'; cases he'; rfl
      have HT := Lib.hid (eqPtr_true p)
      obtain ⟨pa, pb, ps, pu, pl⟩ := p
      unfold Pt.v at HT
      dsimp only at c0 c1 c2 c3 c4 c0' c1' c2' c3' c4' HT
      clear he he'
      go_wp2_with fail
      refine wp_quiet_b (by kernel_rfl) (by kernel_rfl) (fun hgrow => ?_)
      repeat (go_big_quiet_step ((go_at_call 61; exact quiet_b (HT.out _))))
      refine wpQuiet_nil ?_
      intro w2 hww2
      replace hww2 := below_of_regrown hww2
      clear hgrow
      go_wp2_with fail
      go_roundw
      case rel => exact ⟨k + 1, by omega, by go_num, by have := HB.out; (repeat (first | assumption | exact Below.refl _ _ | refine below_alloc ?_ _ | refine Below.drew ?_ | refine below_drewN ?_ _ | refine below_set ?_ (by first | exact Nat.le_refl _ | omega | (simp; done) | (simp; omega)) _ | refine below_kp ?_ (by assumption) (by simp) | refine below_below ?_ (by assumption)))⟩
      case measure => simp [intOf]; omega
    · obtain rfl : k = xs.length := by omega
      go_wp2_with fail
      go_ret
      exact ⟨rfl, HB.out⟩

def SzQ (w : World) (left : Int) (n : Nat) (e : Ending) (w' : World) : Prop := ∃ r : Int, e = .returned (.int .i64 r) ∧ -1 ≤ r ∧ r ≤ left ∧ (0 ≤ r → r + (n : Int) = left) ∧ w = w'

theorem szPtrS_any (w : World) (A : Option Addr) (n c : Nat) (left : Int) (hn : n ≤ 9223372036854775807) (h0 : 0 ≤ left) (h1 : left ≤ 1048576) :
    Calls Try.prog 16 #[.slice A n c, .int .i64 left] w (SzQ w left n) := by
  by_cases h : left - (n : Int) < 0
  · go_enter Try.func16, Try.ntmps16
    go_wp2
    go_ret
    exact ⟨-1, rfl, by omega, by omega, by omega, rfl⟩
  · go_enter Try.func16, Try.ntmps16
    go_wp2
    go_ret
    exact ⟨left - n, rfl, by omega, by omega, by omega, rfl⟩

/-- The marks from k on. -/
def markP (k n : Nat) : List Pt := (List.range n).map fun i => ⟨(k + 5 * i : Nat), (k + 5 * i + 1 : Nat), (k + 5 * i + 2 : Nat), (k + 5 * i + 3 : Nat), (k + 5 * i + 4 : Nat)⟩
theorem markP_length (k n : Nat) : (markP k n).length = n := by simp [markP]
theorem markP_get (k n i : Nat) (h : i < n) : (markP k n)[i]? = some ⟨(k + 5 * i : Nat), (k + 5 * i + 1 : Nat), (k + 5 * i + 2 : Nat), (k + 5 * i + 3 : Nat), (k + 5 * i + 4 : Nat)⟩ := by simp [markP, h]

set_option maxHeartbeats 2000000 in
theorem heldPtrS_any (w : World) (A : Option Addr) (cap n k : Nat) (h : RdT encP 5 w A (markP k n)) (hc : n ≤ cap) (hn : n ≤ 1048576) (hk2 : k ≤ 10485920) :
    Calls Try.prog 68 #[.slice A n cap, .int .i64 k] w fun e w' => e = .returned (.int .i64 ((k + 5 * n : Nat) : Int)) ∧ w = w' := by
  have HR := Lib.hid h
  clear h
  go_enter Try.func68, Try.ntmps68
  go_wp2_with fail
  go_loop [1, 5] (fun x y => ∃ (i K : Nat), i ≤ n ∧ K = k + 5 * i ∧ x = .int .i64 K ∧ y = .int .i64 i) (fun x y => n - (intOf y).toNat)
  case atStart => exact ⟨0, k, Nat.zero_le _, by omega, rfl, rfl⟩
  case round =>
    obtain ⟨i, K, hi, hK, rfl, rfl⟩ := hrel
    have HK := Lib.hid hK
    have hKb : K ≤ 20000000 := by omega
    clear hK
    by_cases hlt : i < n
    · obtain ⟨b, off, p, rfl, hb, he, c0, c1, c2, c3, c4⟩ := HR.out.ptr (k := i) (by rw [markP_length]; exact hlt)
      rw [markP_get _ _ _ hlt, ← HK.out] at he
      cases he
      dsimp only at c0 c1 c2 c3 c4
      simp only [Int.natCast_add, Int.cast_ofNat_Int] at c0 c1 c2 c3 c4
      have e1 : (K : Int) + 1 + 1 = (K : Int) + 2 := by omega
      have e2 : (K : Int) + 2 + 1 = (K : Int) + 3 := by omega
      have e3 : (K : Int) + 3 + 1 = (K : Int) + 4 := by omega
      go_wp2_with fail
      go_round
      case rel => exact ⟨i + 1, K + 5, by omega, by have := HK.out; omega, by go_num, by go_num⟩
      case measure => simp [intOf]; omega
    · obtain rfl : i = n := by omega
      have hKe := HK.out
      subst hKe
      go_wp2_with fail
      go_ret
      exact ⟨rfl, rfl⟩

/-- The block of a row of the call's own, as a list. -/
def exP (v : Value) : List Nat := match v.ownBlock with | some b => [b] | none => []

def MarkPostP (base k n : Nat) (w : World) (v : Value) (e : Ending) (w' : World) : Prop := e = .returned (.int .i64 ((k + 5 * n : Nat) : Int)) ∧ Own encP 5 41 base w' v (markP k n) ∧ Kp (exP v) w w'

theorem markP_mix (k n i : Nat) (es : List Pt) (hn : es.length = n) (hi : i < n) : ((markP k n).take i ++ es.drop i).set i ⟨(k + 5 * i : Nat), (k + 5 * i + 1 : Nat), (k + 5 * i + 2 : Nat), (k + 5 * i + 3 : Nat), (k + 5 * i + 4 : Nat)⟩ = (markP k n).take (i + 1) ++ es.drop (i + 1) := by
  apply List.ext_getElem?
  intro j
  have h1 : ((markP k n).take i).length = i := by rw [List.length_take, markP_length]; omega
  have h2 : ((markP k n).take (i + 1)).length = i + 1 := by rw [List.length_take, markP_length]; omega
  by_cases hj : j < i
  · rw [List.getElem?_set_ne (by omega), List.getElem?_append_left (by omega), List.getElem?_append_left (by omega), List.getElem?_take, List.getElem?_take, if_pos hj, if_pos (by omega)]
  · by_cases hj2 : j = i
    · subst hj2
      rw [List.getElem?_set_self (by simp [markP_length]; omega), List.getElem?_append_left (by omega), List.getElem?_take, if_pos (by omega), markP_get _ _ _ hi]
    · rw [List.getElem?_set_ne (by omega), List.getElem?_append_right (by omega), List.getElem?_append_right (by omega), h1, h2, List.getElem?_drop, List.getElem?_drop]
      congr 1
      omega

set_option maxHeartbeats 2000000 in
theorem markPtrS_at (base : Nat) (w : World) (g cap k : Nat) (es : List Pt) (h : Own encP 5 41 base w (.slice (some ⟨g, 0, none⟩) es.length cap) es) (hn : es.length ≤ 1048576) (hk2 : k ≤ 10485920) (hg : g < w.heap.size) :
    Calls Try.prog 20 #[.slice (some ⟨g, 0, none⟩) es.length cap, .int .i64 k] w (MarkPostP base k es.length w (.slice (some ⟨g, 0, none⟩) es.length cap)) := by
  have HO := Lib.hid (show w.ownsRow base 41 5 (.slice (some ⟨g, 0, none⟩) es.length cap) es.length (cellsOf encP 5 es) from h)
  obtain ⟨A, cap', hv, hcc, hcm, _, _⟩ := h.form
  cases hv
  clear h
  go_enter Try.func20, Try.ntmps20
  go_wp2_with fail
  go_loopw [1, 5] (fun x y wr => ∃ (i K : Nat), i ≤ es.length ∧ K = k + 5 * i ∧ x = .int .i64 K ∧ y = .int .i64 i ∧ Hid (wr.ownsRow base 41 5 (.slice (some ⟨g, 0, none⟩) es.length cap) es.length (cellsOf encP 5 ((markP k es.length).take i ++ es.drop i))) ∧ Hid (Kp [g] w wr)) (fun x y _ => es.length - (intOf y).toNat)
  case atStart => exact ⟨0, k, Nat.zero_le _, by omega, rfl, rfl, by simpa using HO, Lib.hid (Kp.refl _ _)⟩
  case round =>
    obtain ⟨i, K, hi, hK, rfl, rfl, HW, HB⟩ := hrel
    have HK := Lib.hid hK
    have hKb : K ≤ 20000000 := by omega
    clear hK
    by_cases hlt : i < es.length
    · have hO2 := HW.out
      have hl : (cellsOf encP 5 ((markP k es.length).take i ++ es.drop i)).length = es.length * 5 := hO2.1
      have hcell : ∀ j, j < 5 → ∃ v, wr.cell? ⟨g, i * 5 + j, none⟩ = some v := fun j hj => ⟨_, (hO2.cellAt (i * 5 + j) (by omega)).trans (List.getElem?_eq_getElem (by omega))⟩
      obtain ⟨v0, hv0⟩ := hcell 0 (by omega)
      obtain ⟨v1, hv1⟩ := hcell 1 (by omega)
      obtain ⟨v2, hv2⟩ := hcell 2 (by omega)
      obtain ⟨v3, hv3⟩ := hcell 3 (by omega)
      obtain ⟨v4, hv4⟩ := hcell 4 (by omega)
      rw [Nat.add_zero] at hv0
      have hf0 := hO2.frozenAt (i * 5)
      have hf1 := hO2.frozenAt (i * 5 + 1)
      have hf2 := hO2.frozenAt (i * 5 + 2)
      have hf3 := hO2.frozenAt (i * 5 + 3)
      have hf4 := hO2.frozenAt (i * 5 + 4)
      clear hO2 hl hcell
      go_wp2_with fail
      go_roundw
      case rel =>
        refine ⟨i + 1, K + 5, by omega, by have := HK.out; omega, by go_num, by go_num, ?_, ?_⟩
        · have h1 := (((((HW.out.stored (i * 5) (.int .i64 (K : Int))).1.stored (i * 5 + 1) (.int .i64 ((K : Int) + 1))).1.stored (i * 5 + 2) (.int .i64 ((K : Int) + 1 + 1))).1.stored (i * 5 + 3) (.int .i64 ((K : Int) + 1 + 1 + 1))).1.stored (i * 5 + 4) (.int .i64 ((K : Int) + 1 + 1 + 1 + 1))).1
          have e := cellsOf_set5 (enc := encP) ((markP k es.length).take i ++ es.drop i) i ⟨(k + 5 * i : Nat), (k + 5 * i + 1 : Nat), (k + 5 * i + 2 : Nat), (k + 5 * i + 3 : Nat), (k + 5 * i + 4 : Nat)⟩ (by simp [markP_length]; omega)
          rw [markP_mix k es.length i es rfl hlt, ← HK.out] at e
          rw [← e]
          exact h1
        · exact Lib.hid (((((HB.out.setCell (.inl (by simp)) _).setCell (.inl (by simp)) _).setCell (.inl (by simp)) _).setCell (.inl (by simp)) _).setCell (.inl (by simp)) _)
      case measure => simp [intOf]; omega
    · obtain rfl : i = es.length := by omega
      have hKe := HK.out
      subst hKe
      have HX := Lib.hid (show Own encP 5 41 base wr (.slice (some ⟨g, 0, none⟩) es.length cap) (markP k es.length) by
        have := HW.out
        rw [List.take_of_length_le (by rw [markP_length]; exact Nat.le_refl _), List.drop_of_length_le (Nat.le_refl _), List.append_nil] at this
        unfold Own
        rw [markP_length]
        exact this)
      go_wp2_with fail
      go_ret
      exact ⟨rfl, HX.out, HB.out⟩

theorem markPtrS_any (base : Nat) (w : World) (v : Value) (k : Nat) (es : List Pt) (h : Own encP 5 41 base w v es) (hn : es.length ≤ 1048576) (hk2 : k ≤ 10485920) :
    Calls Try.prog 20 #[v, .int .i64 k] w (MarkPostP base k es.length w v) := by
  have h' := h
  rcases h.2 with ⟨rfl, h0⟩ | ⟨g, cap, cur, rfl, hg, hh, _⟩
  · have he : es = [] := List.length_eq_zero_iff.1 h0
    subst he
    have HX := Lib.hid (show Own encP 5 41 base w (.slice none 0 0) (markP k 0) from Own.nil)
    clear h h'
    go_enter Try.func20, Try.ntmps20
    go_wp2_with fail
    go_loopw [1, 5] (fun x y wr => x = .int .i64 k ∧ y = .int .i64 0 ∧ wr = w) (fun x y _ => 0)
    case atStart => exact ⟨rfl, rfl, rfl⟩
    case round =>
      obtain ⟨rfl, rfl, rfl⟩ := hrel
      go_wp2_with fail
      go_ret
      exact ⟨rfl, HX.out, Kp.refl _ _⟩
  · have hlt : g < w.heap.size := by
      rcases Nat.lt_or_ge g w.heap.size with h' | h'
      · exact h'
      · rw [Array.getElem?_eq_none h'] at hh; cases hh
    exact markPtrS_at base w g cap k es h' hn hk2 hlt

instance : Inhabited Pt := ⟨zeroP⟩
open Go.ChangeShapes Go.WideShapes Go.ChangeAt in
/-- One pointer's cells, out of its reading. -/
theorem pt_of_trod {H : Type} {enc : TypeId × Value → H} {W : World} {base : Nat} {n : Nat} {cs : List Value} {x : DataW H × List MemPlace} (hlen : cs.length = 5) (h : DataW.trod enc Try.prog W base (fun _ => true) true n 59 cs = some x) :
    ∃ p : Pt, ∀ j, j < 5 → cs[j]? = some (encP p j) := by
  have c1 : Try.prog.cellsOf 3 = 1 := by kernel_rfl
  match cs, hlen with
  | [v0, v1, v2, v3, v4], _ =>
    obtain ⟨n0, y0, t0⟩ := trod_at Try.underlying59 h 0 rfl rfl rfl c1 rfl
    obtain ⟨n1, y1, t1⟩ := trod_at Try.underlying59 h 1 rfl rfl rfl c1 rfl
    obtain ⟨n2, y2, t2⟩ := trod_at Try.underlying59 h 2 rfl rfl rfl c1 rfl
    obtain ⟨n3, y3, t3⟩ := trod_at Try.underlying59 h 3 rfl rfl rfl c1 rfl
    obtain ⟨n4, y4, t4⟩ := trod_at Try.underlying59 h 4 rfl rfl rfl c1 rfl
    obtain ⟨z0, e0, _, _⟩ := DataW.trod_int Try.underlying3 t0
    obtain ⟨z1, e1, _, _⟩ := DataW.trod_int Try.underlying3 t1
    obtain ⟨z2, e2, _, _⟩ := DataW.trod_int Try.underlying3 t2
    obtain ⟨z3, e3, _, _⟩ := DataW.trod_int Try.underlying3 t3
    obtain ⟨z4, e4, _, _⟩ := DataW.trod_int Try.underlying3 t4
    cases e0; cases e1; cases e2; cases e3; cases e4
    exact ⟨⟨z0, z1, z2, z3, z4⟩, fun j hj => by
      rcases (show j = 0 ∨ j = 1 ∨ j = 2 ∨ j = 3 ∨ j = 4 by omega) with rfl | rfl | rfl | rfl | rfl <;> rfl⟩

open Go.ChangeShapes Go.WideShapes Go.ChangeAt in
/-- A list of pointers that came in, opened, out of its reading. -/
theorem open_ptrs {H : Type} {enc : TypeId × Value → H} {W : World} {base fuel : Nat} {v : Value} {x : DataW H × List MemPlace} (h : DataW.trod enc Try.prog W base (fun _ => true) true fuel 32 [v] = some x) :
    ∃ (A : Option Addr) (cap : Nat) (xs : List Pt), v = .slice A xs.length cap ∧ xs.length ≤ cap ∧ cap ≤ 9223372036854775807 ∧ RdT encP 5 W A xs := by
  have c5 : Try.prog.cellsOf 59 = 5 := by kernel_rfl
  rcases Deep.open_slice Try.underlying32 h with ⟨hcs, _⟩ | ⟨a, len, cap, m, n, D, Pl, hcs, _, hl, hm, hmm, _, hx⟩
  · cases hcs
    exact ⟨none, 0, [], rfl, Nat.le_refl _, by omega, RdT.none_⟩
  · cases hcs
    have hm' : m = cap := by simpa using hmm
    subst hm'
    rw [c5] at hx
    have each : ∀ i, i < len → ∃ p : Pt, ∀ j, j < 5 → W.cell? (a.add (i * 5 + j)) = some (encP p j) := fun i hi => by
      obtain ⟨cs', h1, h2⟩ := hx i (by omega)
      obtain ⟨_, hlen, hcell⟩ := World.cells?_some h1
      obtain ⟨p, hp⟩ := pt_of_trod hlen h2
      refine ⟨p, fun j hj => ?_⟩
      rw [← Deep.add_add, hcell j hj]
      exact hp j hj
    obtain ⟨q, hq⟩ := Deep.choose_lt each
    have hlen : ((List.range len).map q).length = len := by simp
    refine ⟨some a, m, (List.range len).map q, by rw [hlen], by omega, by unfold maxLen at hm; omega, fun hn => ?_⟩
    rw [hlen] at hn
    obtain ⟨b, off, spot⟩ := a
    have h00 := hq 0 hn 0 (by omega)
    have hspot : spot = none := by
      have := World.cell?_spot h00
      simpa [Addr.add] using this
    subst hspot
    have hlt' : b < W.heap.size := by
      have := World.block_lt_of_cell? W _ h00
      simpa [Addr.add] using this
    refine ⟨b, off, rfl, hlt', fun i x hx j hj => ?_⟩
    have hi : i < len := by
      rcases Nat.lt_or_ge i len with h | h
      · exact h
      · rw [List.getElem?_eq_none (by simp; omega)] at hx; cases hx
    rw [List.getElem?_map, List.getElem?_range hi] at hx
    simp only [Option.map_some, Option.some.injEq] at hx
    subst hx
    have := hq i hi j hj
    rw [addr_add] at this
    rw [Nat.add_assoc]
    exact this
open Go.ChangeShapes Go.WideShapes Go.ChangeAt in
theorem open_ptrs' {H : Type} {enc : TypeId × Value → H} {W : World} {r : Reach} {b0 base : Nat} {v : Value} {dd : DataW H} {p : List MemPlace} (hval : Value.okWide Try.prog W r b0 32 v) (h : DataW.Trod enc Try.prog W base (fun _ => true) true 32 v dd p) :
    ∃ (A : Option Addr) (cap : Nat) (xs : List Pt), v = .slice A xs.length cap ∧ xs.length ≤ cap ∧ cap ≤ 9223372036854775807 ∧ RdT encP 5 W A xs := by
  obtain ⟨a0, len0, cap0, rfl⟩ := okWide_slice Try.underlying32 hval
  obtain ⟨fuel, hf⟩ := h
  exact open_ptrs (v := .slice a0 len0 cap0) hf

end Go.Proofs.Ytomofiklodojeaa
