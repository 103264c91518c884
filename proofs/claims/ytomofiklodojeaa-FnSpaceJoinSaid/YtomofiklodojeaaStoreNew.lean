/- New space, and a new store: both texts. -/
import Derived.Test.YtomofiklodojeaaIntMark
import Derived.Test.YtomofiklodojeaaPtrS
import Derived.Deep.OwnRows
import Derived.Deep.RegionWith
namespace Go.Proofs.Ytomofiklodojeaa
open Go.RowKit
set_option maxRecDepth 100000
set_option linter.unusedVariables false
set_option linter.unusedSimpArgs false

/-- What 'make' lays. -/
def zerosN (n : Nat) : Obj := .cells (madeCells #[.int .i64 0] n) 3
def zerosS (n : Nat) : Obj := .cells (madeCells #[.string ⟨#[]⟩] n) 9
theorem make_N (n : Nat) (hn : n ≤ 1000000) (w : World) : (Instr.makeSlice 25 (.int .i64 (n : Int)) (.int .i64 (n : Int))).run Try.prog w = .ok (.slice (some ⟨w.heap.size, 0, none⟩) n n) (w.alloc (zerosN n)) :=
  run_make_row' (P := Try.prog) 25 3 (.int .i64 0) 8 Try.underlying25 info_int rfl .i64 .i64 n (by omega) (by omega) w
theorem make_S (n : Nat) (hn : n ≤ 1000000) (w : World) : (Instr.makeSlice 45 (.int .i64 (n : Int)) (.int .i64 (n : Int))).run Try.prog w = .ok (.slice (some ⟨w.heap.size, 0, none⟩) n n) (w.alloc (zerosS n)) :=
  run_make_row' (P := Try.prog) 45 9 (.string ⟨#[]⟩) 16 Try.underlying45 info_string rfl .i64 .i64 n (by omega) (by omega) w

theorem own_made {α : Type} {enc : α → Nat → Value} {T base n : Nat} {w : World} {b : Nat} {z : Value} {xs : List α} (hx : xs.length = n) (hb : base ≤ b) (hn : n ≤ maxLen) (h : w.heap[b]? = some (.cells (madeCells #[z] n) T)) (hm : (madeCells #[z] n).toList = cellsOf enc 1 xs) :
    Own enc 1 T base w (.slice (some ⟨b, 0, none⟩) n n) xs := by
  subst hx
  refine ⟨by rw [cellsOf_length], .inr ⟨b, xs.length, madeCells #[z] xs.length, rfl, hb, h, Nat.le_refl _, hn, by simp [size_madeCells], ?_⟩⟩
  rw [hm, Nat.mul_one]
  exact List.take_of_length_le (by rw [cellsOf_length]; omega)
theorem own_zerosN {base n : Nat} {w : World} {b : Nat} (hb : base ≤ b) (hn : n ≤ 1000000) (h : w.heap[b]? = some (zerosN n)) : Own encN 1 3 base w (.slice (some ⟨b, 0, none⟩) n n) (List.replicate n 0) :=
  own_made (by simp) hb (by unfold maxLen; omega) h (by have := madeN n; rw [Nat.mul_one] at this; exact this)
theorem own_zerosS {base n : Nat} {w : World} {b : Nat} (hb : base ≤ b) (hn : n ≤ 1000000) (h : w.heap[b]? = some (zerosS n)) : Own encS 1 9 base w (.slice (some ⟨b, 0, none⟩) n n) (List.replicate n ⟨#[]⟩) :=
  own_made (by simp) hb (by unfold maxLen; omega) h (by have := madeS n; rw [Nat.mul_one] at this; exact this)

/-- New space: two rows of noughts, apart. -/
def SpNew (w : World) (e : Ending) (w' : World) : Prop := ∃ b1 b2 : Nat, e = .returned (.agg #[.slice (some ⟨b1, 0, none⟩) 64 64, .slice (some ⟨b2, 0, none⟩) 64 64]) ∧ b1 ≠ b2 ∧ w.heap.size ≤ b1 ∧ w.heap.size ≤ b2 ∧ w'.heap[b1]? = some (zerosN 64) ∧ w'.heap[b2]? = some (zerosN 64) ∧ Below w.heap.size w w'

theorem heap_two {w : World} {a b c : Obj} : (((w.alloc a).alloc b).alloc c).heap[w.heap.size + 1]? = some b ∧ (((w.alloc a).alloc b).alloc c).heap[w.heap.size + 2]? = some c := by
  have e2 : ((w.alloc a).alloc b).heap.size = w.heap.size + 2 := by rw [World.size_alloc, World.size_alloc]
  have e1 : (w.alloc a).heap.size = w.heap.size + 1 := World.size_alloc _ _
  refine ⟨?_, ?_⟩
  · rw [Below.heap_alloc _ _ _ (by omega), ← e1]
    exact heap_alloc_new (w.alloc a) b
  · rw [← e2]
    exact heap_alloc_new ((w.alloc a).alloc b) c

theorem spNew_end {w W : World} {a : Obj} {b1 b2 : Nat} (hb : (b1 = w.heap.size + 1 ∧ b2 = w.heap.size + 1 + 1) ∨ (b2 = w.heap.size + 1 ∧ b1 = w.heap.size + 1 + 1)) (hW : W.heap = (((w.alloc a).alloc (zerosN 64)).alloc (zerosN 64)).heap) (hB : Below w.heap.size w W) :
    SpNew w (.returned (.agg #[.slice (some ⟨b1, 0, none⟩) 64 64, .slice (some ⟨b2, 0, none⟩) 64 64])) W := by
  obtain ⟨h1, h2⟩ := heap_two (w := w) (a := a) (b := zerosN 64) (c := zerosN 64)
  rw [← hW] at h1 h2
  rcases hb with ⟨rfl, rfl⟩ | ⟨rfl, rfl⟩
  · exact ⟨_, _, rfl, by omega, by omega, by omega, h1, h2, hB⟩
  · exact ⟨_, _, rfl, by omega, by omega, by omega, h2, h1, hB⟩

set_option maxHeartbeats 1000000 in
theorem spaceNew_any (w : World) : Calls Try.prog 55 #[] w (SpNew w) := by
  have hmk : ∀ W : World, (Instr.makeSlice 25 (.int .i64 64) (.int .i64 64)).run Try.prog W = .ok (.slice (some ⟨W.heap.size, 0, none⟩) 64 64) (W.alloc (zerosN 64)) := make_N 64 (by omega)
  go_enter Try.func55, Try.ntmps55
  go_wp2_with fail
  go_region_with (fail)
  · go_wp2_with fail
    refine bodyPost_ret (v := .agg #[.slice (some ⟨w.heap.size + 1, 0, none⟩) 64 64, .slice (some ⟨w.heap.size + 1 + 1, 0, none⟩) 64 64]) (by simp [results, Try.results55, go_sem]) rfl (spNew_end (.inl ⟨rfl, rfl⟩) rfl (by (repeat (first | assumption | exact Below.refl _ _ | refine below_alloc ?_ _ | refine Below.drew ?_ | refine below_drewN ?_ _ | refine below_set ?_ (by first | exact Nat.le_refl _ | omega | (simp; done) | (simp; omega)) _ | refine below_kp ?_ (by assumption) (by simp) | refine below_below ?_ (by assumption)))))
  · go_wp2_with fail
    refine bodyPost_ret (v := .agg #[.slice (some ⟨w.heap.size + 1 + 1, 0, none⟩) 64 64, .slice (some ⟨w.heap.size + 1, 0, none⟩) 64 64]) (by simp [results, Try.results55, go_sem]) rfl (spNew_end (.inr ⟨rfl, rfl⟩) rfl (by (repeat (first | assumption | exact Below.refl _ _ | refine below_alloc ?_ _ | refine Below.drew ?_ | refine below_drewN ?_ _ | refine below_set ?_ (by first | exact Nat.le_refl _ | omega | (simp; done) | (simp; omega)) _ | refine below_kp ?_ (by assumption) (by simp) | refine below_below ?_ (by assumption)))))

set_option maxHeartbeats 1000000 in
theorem specSpaceNew_any (w : World) : Calls Try.prog 57 #[] w (SpNew w) := by
  have hmk : ∀ W : World, (Instr.makeSlice 25 (.int .i64 64) (.int .i64 64)).run Try.prog W = .ok (.slice (some ⟨W.heap.size, 0, none⟩) 64 64) (W.alloc (zerosN 64)) := make_N 64 (by omega)
  go_enter Try.func57, Try.ntmps57
  go_wp2_with fail
  go_region_with (fail)
  · go_wp2_with fail
    refine bodyPost_ret (v := .agg #[.slice (some ⟨w.heap.size + 1, 0, none⟩) 64 64, .slice (some ⟨w.heap.size + 1 + 1, 0, none⟩) 64 64]) (by simp [results, Try.results57, go_sem]) rfl (spNew_end (.inl ⟨rfl, rfl⟩) rfl (by (repeat (first | assumption | exact Below.refl _ _ | refine below_alloc ?_ _ | refine Below.drew ?_ | refine below_drewN ?_ _ | refine below_set ?_ (by first | exact Nat.le_refl _ | omega | (simp; done) | (simp; omega)) _ | refine below_kp ?_ (by assumption) (by simp) | refine below_below ?_ (by assumption)))))
  · go_wp2_with fail
    refine bodyPost_ret (v := .agg #[.slice (some ⟨w.heap.size + 1 + 1, 0, none⟩) 64 64, .slice (some ⟨w.heap.size + 1, 0, none⟩) 64 64]) (by simp [results, Try.results57, go_sem]) rfl (spNew_end (.inr ⟨rfl, rfl⟩) rfl (by (repeat (first | assumption | exact Below.refl _ _ | refine below_alloc ?_ _ | refine Below.drew ?_ | refine below_drewN ?_ _ | refine below_set ?_ (by first | exact Nat.le_refl _ | omega | (simp; done) | (simp; omega)) _ | refine below_kp ?_ (by assumption) (by simp) | refine below_below ?_ (by assumption)))))

/-- A new store: its rows, apart; what was given up: nothing. -/
def StNew (same nl : Bool) (w : World) (e : Ending) (w' : World) : Prop := ∃ (b0 b1 b2 : Nat) (G D : Option Addr), e = .returned (.agg #[.slice (some ⟨b0, 0, none⟩) 64 64, .slice (some ⟨b1, 0, none⟩) 64 64, .slice (some ⟨b2, 0, none⟩) 64 64, .int .i64 1, .slice G 0 0, .int .i64 0, .slice D 0 0, .bool same]) ∧ b0 ≠ b1 ∧ b0 ≠ b2 ∧ b1 ≠ b2 ∧ w.heap.size ≤ b0 ∧ w.heap.size ≤ b1 ∧ w.heap.size ≤ b2 ∧
  w'.heap[b0]? = some (zerosS 64) ∧ w'.heap[b1]? = some (zerosN 64) ∧ w'.heap[b2]? = some (zerosN 64) ∧ Below w.heap.size w w' ∧ (nl = true → G = none ∧ D = none)

theorem heap_lt {w : World} {b : Nat} {o : Obj} (h : w.heap[b]? = some o) : b < w.heap.size := by
  rcases Nat.lt_or_ge b w.heap.size with h' | h'
  · exact h'
  · rw [Array.getElem?_eq_none h'] at h; cases h
section
variable {w W : World} {o : Obj} {b n : Nat} {x : Option Obj} {p : Addr} {v : Value}
theorem hp_new (h : b = w.heap.size) : (w.alloc o).heap[b]? = some o := by
  subst h
  exact heap_alloc_new w o
theorem hp_old (h : b < w.heap.size) (hx : w.heap[b]? = x) : (w.alloc o).heap[b]? = x := (Below.heap_alloc _ _ _ h).trans hx
theorem hp_set (h : b ≠ p.block) (hx : w.heap[b]? = x) : (w.setCell p v).heap[b]? = x := (Below.heap_setCell _ _ _ _ h).trans hx
theorem hp_drew (hx : w.heap[b]? = x) : w.drew.heap[b]? = x := hx
theorem hp_drewN (hx : w.heap[b]? = x) : (w.drewN n).heap[b]? = x := hx
theorem hp_below (hB : Below w.heap.size w W) (h : b < w.heap.size) (hx : w.heap[b]? = x) : W.heap[b]? = x := (hB.block b h).trans hx
end

set_option maxHeartbeats 800000 in
theorem storeNew_any (same : Bool) (w : World) : Calls Try.prog 27 #[.bool same] w (StNew same true w) := by
  have hmk : ∀ W : World, (Instr.makeSlice 45 (.int .i64 64) (.int .i64 64)).run Try.prog W = .ok (.slice (some ⟨W.heap.size, 0, none⟩) 64 64) (W.alloc (zerosS 64)) := make_S 64 (by omega)
  go_enter Try.func27, Try.ntmps27
  go_wp2_with fail
  go_region_with ((go_at_call 55; refine Calls.mono (spaceNew_any _) ?_; rintro e w1 ⟨b1, b2, rfl, hne, hg1, hg2, hz1, hz2, hB⟩; have hsz := hB.size; (try simp only [World.size_alloc, World.size_drew, Nat.add_one_le_iff] at hsz hg1 hg2); have hx1 : w.heap.size < w1.heap.size := (by omega); have hbk : w1.heap[w.heap.size]? = some (.cells #[.slice none 0 0, .slice none 0 0, .slice none 0 0, .int .i64 0, .slice none 0 0, .int .i64 0, .slice none 0 0, .bool false] 47) := (by refine hp_below hB (by first | (simp; done) | (simp; omega)) ?_; (repeat (first | with_reducible exact Z1.out | with_reducible exact Z2.out | with_reducible assumption | with_reducible refine hp_drew ?_ | with_reducible refine hp_drewN ?_ | with_reducible refine hp_set (by first | omega | (simp only [World.size_setCell, World.size_alloc, World.size_drew]; done) | (simp only [World.size_setCell, World.size_alloc, World.size_drew]; omega)) ?_ | with_reducible exact hp_new (by first | omega | (simp only [World.size_setCell, World.size_alloc, World.size_drew]; done) | (simp only [World.size_setCell, World.size_alloc, World.size_drew]; omega)) | with_reducible refine hp_old (by first | omega | (simp only [World.size_setCell, World.size_alloc, World.size_drew]; done) | (simp only [World.size_setCell, World.size_alloc, World.size_drew]; omega)) ?_ | with_reducible refine hp_below HB.out (by first | omega | (simp only [World.size_setCell, World.size_alloc, World.size_drew]; done) | (simp only [World.size_setCell, World.size_alloc, World.size_drew]; omega)) ?_))); have hcl : ∀ o, w1.cell? ⟨w.heap.size, o, none⟩ = (#[.slice none 0 0, .slice none 0 0, .slice none 0 0, .int .i64 0, .slice none 0 0, .int .i64 0, .slice none 0 0, .bool false] : Array Value)[o]? := (fun o => by simp [World.cell?, hbk]); have hfr : ∀ o, w1.frozen? ⟨w.heap.size, o, none⟩ = false := (fun o => by simp [World.frozen?, hbk]); clear hbk; have HB := Lib.hid hB; have hl1 := heap_lt hz1; have hl2 := heap_lt hz2; have Z1 := Lib.hid hz1; have Z2 := Lib.hid hz2; clear hB hz1 hz2))
  all_goals
    go_wp2_with fail
    refine bodyPost_ret (v := ?_) ?_ rfl ?_
    rotate_left 1
    · simp [results, Try.results27, go_sem, hcl, hx1]
      rfl
    refine ⟨_, b1, b2, _, _, rfl, ?_, ?_, hne, ?_, by omega, by omega, ?_, ?_, ?_, ?_, ?_⟩
    · first | omega | (simp; done) | (simp; omega)
    · first | omega | (simp; done) | (simp; omega)
    · first | omega | (simp; done) | (simp; omega)
    · (repeat (first | with_reducible exact Z1.out | with_reducible exact Z2.out | with_reducible assumption | with_reducible refine hp_drew ?_ | with_reducible refine hp_drewN ?_ | with_reducible refine hp_set (by first | omega | (simp only [World.size_setCell, World.size_alloc, World.size_drew]; done) | (simp only [World.size_setCell, World.size_alloc, World.size_drew]; omega)) ?_ | with_reducible exact hp_new (by first | omega | (simp only [World.size_setCell, World.size_alloc, World.size_drew]; done) | (simp only [World.size_setCell, World.size_alloc, World.size_drew]; omega)) | with_reducible refine hp_old (by first | omega | (simp only [World.size_setCell, World.size_alloc, World.size_drew]; done) | (simp only [World.size_setCell, World.size_alloc, World.size_drew]; omega)) ?_ | with_reducible refine hp_below HB.out (by first | omega | (simp only [World.size_setCell, World.size_alloc, World.size_drew]; done) | (simp only [World.size_setCell, World.size_alloc, World.size_drew]; omega)) ?_))
    · (repeat (first | with_reducible exact Z1.out | with_reducible exact Z2.out | with_reducible assumption | with_reducible refine hp_drew ?_ | with_reducible refine hp_drewN ?_ | with_reducible refine hp_set (by first | omega | (simp only [World.size_setCell, World.size_alloc, World.size_drew]; done) | (simp only [World.size_setCell, World.size_alloc, World.size_drew]; omega)) ?_ | with_reducible exact hp_new (by first | omega | (simp only [World.size_setCell, World.size_alloc, World.size_drew]; done) | (simp only [World.size_setCell, World.size_alloc, World.size_drew]; omega)) | with_reducible refine hp_old (by first | omega | (simp only [World.size_setCell, World.size_alloc, World.size_drew]; done) | (simp only [World.size_setCell, World.size_alloc, World.size_drew]; omega)) ?_ | with_reducible refine hp_below HB.out (by first | omega | (simp only [World.size_setCell, World.size_alloc, World.size_drew]; done) | (simp only [World.size_setCell, World.size_alloc, World.size_drew]; omega)) ?_))
    · (repeat (first | with_reducible exact Z1.out | with_reducible exact Z2.out | with_reducible assumption | with_reducible refine hp_drew ?_ | with_reducible refine hp_drewN ?_ | with_reducible refine hp_set (by first | omega | (simp only [World.size_setCell, World.size_alloc, World.size_drew]; done) | (simp only [World.size_setCell, World.size_alloc, World.size_drew]; omega)) ?_ | with_reducible exact hp_new (by first | omega | (simp only [World.size_setCell, World.size_alloc, World.size_drew]; done) | (simp only [World.size_setCell, World.size_alloc, World.size_drew]; omega)) | with_reducible refine hp_old (by first | omega | (simp only [World.size_setCell, World.size_alloc, World.size_drew]; done) | (simp only [World.size_setCell, World.size_alloc, World.size_drew]; omega)) ?_ | with_reducible refine hp_below HB.out (by first | omega | (simp only [World.size_setCell, World.size_alloc, World.size_drew]; done) | (simp only [World.size_setCell, World.size_alloc, World.size_drew]; omega)) ?_))
    · (repeat (first | with_reducible assumption | with_reducible exact Below.refl _ _ | with_reducible refine below_alloc ?_ _ | with_reducible refine Below.drew ?_ | with_reducible refine below_drewN ?_ _ | with_reducible refine below_set ?_ (by first | exact Nat.le_refl _ | omega | (simp only [World.size_setCell, World.size_alloc, World.size_drew]; done) | (simp only [World.size_setCell, World.size_alloc, World.size_drew]; omega)) _ | with_reducible refine below_below ?_ HB.out))
    · exact fun _ => ⟨rfl, rfl⟩

end Go.Proofs.Ytomofiklodojeaa
