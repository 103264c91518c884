/- What a cell of a disk has, waiting or not: both texts (the program's ranges over slices.Backward). -/
import Derived.Test.YtamljoffmkcbnaaDisk
import Derived.RangeFuncNested
import Derived.RangeFuncBound
import Derived.RangeFuncCalls
import Derived.RangeFuncLeaves
import Derived.Shelf.Abstract
import Derived.Shelf.RegionOpen
import Derived.OwnWalkIn
import Derived.TacticsInMore
import Derived.LoopNIn
import Derived.LoopIn
namespace Go.Proofs.Ytamljoffmkcbnaa
open Go.RowKit Go.Shelf
set_option maxRecDepth 100000
set_option linter.unusedVariables false
set_option linter.unusedSimpArgs false
attribute [local go_sem] Oper.semAt_some

/-- The last write to a place. -/
def lastW (ws : List Wt) (a : Int) : Option ByteArray := (ws.reverse.find? fun x => x.at_ == a).map (·.text)
def lookK (d : Dk) (a : Int) : ByteArray := (lastW d.waits a).getD (d.cells.getD a.toNat ⟨#[]⟩)
/-- What has come when k rounds are over. -/
def uptoW (f : Nat → Nat × Wt) (k : Nat) : List (Nat × Wt) := (List.range k).map f
theorem uptoW_succ (f : Nat → Nat × Wt) (k : Nat) : uptoW f (k + 1) = uptoW f k ++ [f k] := by simp [uptoW, List.range_succ]
theorem uptoW_length (f : Nat → Nat × Wt) (k : Nat) : (uptoW f k).length = k := by simp [uptoW]
def backF (ws : List Wt) (j : Nat) : Nat × Wt := (ws.length - 1 - j, ws.reverse[j]?.getD ⟨0, ⟨#[]⟩⟩)
theorem backF_at {ws : List Wt} {j : Nat} (h : j < ws.length) {x : Wt} (hx : ws[ws.length - 1 - j]? = some x) : backF ws j = (ws.length - 1 - j, x) := by
  unfold backF
  rw [List.getElem?_reverse h, hx]
  rfl
theorem uptoW_snd (ws : List Wt) {k : Nat} (hk : k ≤ ws.length) : (uptoW (backF ws) k).map (·.2) = ws.reverse.take k := by
  apply List.ext_getElem?
  intro i
  rw [List.getElem?_map, List.getElem?_take]
  unfold uptoW
  rw [List.getElem?_map]
  by_cases hi : i < k
  · have h1 : i < ws.reverse.length := by simp; omega
    rw [List.getElem?_range hi, if_pos hi]
    simp [backF, List.getElem?_eq_getElem h1]
  · rw [List.getElem?_eq_none (by simp; omega), if_neg hi]
    rfl
theorem lastW_hit {ws : List Wt} {a : Int} {k : Nat} (hk : k < ws.length) (hn : ∀ p ∈ uptoW (backF ws) k, p.2.at_ ≠ a) (hx : (backF ws k).2.at_ = a) : lastW ws a = some (backF ws k).2.text := by
  have h1 : ws.reverse.take (k + 1) = ws.reverse.take k ++ [(backF ws k).2] := by
    rw [← uptoW_snd ws (show k + 1 ≤ ws.length by omega), ← uptoW_snd ws (Nat.le_of_lt hk), uptoW_succ, List.map_append]
    rfl
  have h2 : ws.reverse = ws.reverse.take k ++ [(backF ws k).2] ++ ws.reverse.drop (k + 1) := by
    rw [← h1, List.take_append_drop]
  have h3 : (ws.reverse.take k).find? (fun x => x.at_ == a) = none := by
    rw [List.find?_eq_none]
    intro x hm
    rw [← uptoW_snd ws (Nat.le_of_lt hk)] at hm
    obtain ⟨p, hp, rfl⟩ := List.mem_map.1 hm
    simpa using hn p hp
  unfold lastW
  rw [h2, List.find?_append, List.find?_append, h3]
  simp [hx]
theorem lastW_none {ws : List Wt} {a : Int} (hn : ∀ p ∈ uptoW (backF ws) ws.length, p.2.at_ ≠ a) : lastW ws a = none := by
  unfold lastW
  have : ws.reverse.find? (fun x => x.at_ == a) = none := by
    rw [List.find?_eq_none]
    intro x hm
    have hm' : x ∈ ws.reverse.take ws.length := by rw [List.take_of_length_le (by simp)]; exact hm
    rw [← uptoW_snd ws (Nat.le_refl _)] at hm'
    obtain ⟨p, hp, rfl⟩ := List.mem_map.1 hm'
    simpa using hn p hp
  rw [this]
  rfl

/-- A row of waits below a block. -/
def WRow (n₀ : Nat) (w : World) (A : Option Addr) (ws : List Wt) : Prop := ∀ k x, ws[k]? = some x → ∃ b off, A = some ⟨b, off, none⟩ ∧ b < n₀ ∧ w.cell? ⟨b, off + k * 2, none⟩ = some (.int .i64 x.at_) ∧ w.cell? ⟨b, off + k * 2 + 1, none⟩ = some (.string x.text)
theorem WRow.of {w : World} {A : Option Addr} {ws : List Wt} (h : RdT encW 2 w A ws) : WRow w.heap.size w A ws := fun k x hx => by
  have hk : k < ws.length := by
    rcases Nat.lt_or_ge k ws.length with h' | h'
    · exact h'
    · rw [List.getElem?_eq_none h'] at hx; cases hx
  obtain ⟨b, off, z, s, rfl, hb, he, c0, c1⟩ := h.wait hk
  rw [hx] at he
  cases he
  exact ⟨b, off, rfl, hb, c0, c1⟩
theorem WRow.below {n₀ : Nat} {w w' : World} {A : Option Addr} {ws : List Wt} (h : WRow n₀ w A ws) (hb : Below n₀ w w') : WRow n₀ w' A ws := fun k x hx => by
  obtain ⟨b, off, e, hl, c0, c1⟩ := h k x hx
  exact ⟨b, off, e, hl, (hb.cell (p := ⟨b, _, none⟩) hl).trans c0, (hb.cell (p := ⟨b, _, none⟩) hl).trans c1⟩
theorem WRow.more {n₀ m₀ : Nat} {w : World} {A : Option Addr} {ws : List Wt} (h : WRow n₀ w A ws) (hm : n₀ ≤ m₀) : WRow m₀ w A ws := fun k x hx => by
  obtain ⟨b, off, e, hl, c0, c1⟩ := h k x hx
  exact ⟨b, off, e, by omega, c0, c1⟩
theorem boxAt_own {β : Type} (b : Nat) (cs : Array Value) (T : TypeId) : Go.Own (fun (_ : β) W => BoxAt W b cs T) := fun s X Y row hs hg hrow => by
  refine (hg.block b (BoxAt.lt hs) (fun e' => ?_)).trans hs
  obtain ⟨o, ho, hc⟩ := hrow b e'.symm
  rw [show X.heap[b]? = _ from hs] at ho
  cases ho
  cases hc

set_option maxHeartbeats 2000000 in
theorem back1_in (F : Fence) (n : Nat) (h7 : F.fn 94) (hro : F.round = none) (hn : 1 ≤ n) (l Bs n₀ cap : Nat) (A : Option Addr) (ws : List Wt) (hreach : ws.length ≤ 9223372036854775807) (J Jx : List (Nat × Wt) → World → Prop)
    (hY : ∀ pre x W, J pre W → pre.length < ws.length → YieldAt F (n - 1) Try.prog l #[.int .i64 (x.1 : Int), x.2.v] W fun e W' =>
      (e = .returned (.bool true) ∧ J (pre ++ [x]) W' ∧ Below n₀ W W') ∨ (e = .returned (.bool false) ∧ Jx (pre ++ [x]) W'))
    (W : World) (hBn : Bs < n₀) (hBs : W.cell? ⟨Bs, 0, none⟩ = some (.slice A ws.length cap)) (hc : WRow n₀ W A ws) (h0 : J [] W) :
    CallsIn F n Try.prog 94 #[.func (.yield l) #[] #[], .pointer (some ⟨Bs, 0, none⟩)] W fun e W' => (∃ v, e = .returned v) ∧
      ((∃ ys, ys = uptoW (backF ws) ws.length ∧ J ys W') ∨ (∃ pre, (∃ k, k ≤ ws.length ∧ pre = uptoW (backF ws) k) ∧ Jx pre W')) := by
  have HC := Lib.hid hc
  clear hc
  refine callsIn_of_wp Try.func94 rfl h7 ?_ hro
  simp only [Try.ntmps94, List.size_toArray, List.length_cons, List.length_nil, Nat.reduceAdd, Nat.reduceSub, Array.replicate_succ, Array.replicate_zero, List.push_toArray, List.append_toArray, List.nil_append, List.cons_append]
  have w1 : IntKind.i64.wrap ((ws.length : Int) - 1) = (ws.length : Int) - 1 := IntWalk.i64_in _ (by omega)
  gi_wp2
  gi_loopw [3] (fun i wr => ∃ k : Nat, ((k < ws.length ∧ i = .int .i64 ((ws.length - 1 - k : Nat) : Int)) ∨ (k = ws.length ∧ i = .int .i64 (-1))) ∧ J (uptoW (backF ws) k) wr ∧ Below n₀ W wr)
    (fun i _ => (intOf i + 1).toNat)
  case atStart =>
    refine ⟨0, ?_, h0, Below.refl _ _⟩
    by_cases hz : ws.length = 0
    · exact .inr ⟨hz.symm, by rw [hz]; rfl⟩
    · exact .inl ⟨by omega, by congr 1; omega⟩
  case round =>
    obtain ⟨k, hcase, hJs, hnx⟩ := hrel
    have hBx : wr.cell? ⟨Bs, 0, none⟩ = some (.slice A ws.length cap) := (hnx.cell (p := ⟨Bs, 0, none⟩) hBn).trans hBs
    rcases hcase with ⟨hlt, rfl⟩ | ⟨rfl, rfl⟩
    · have hj : ws.length - 1 - k < ws.length := by omega
      have he : ws[ws.length - 1 - k]? = some ws[ws.length - 1 - k] := List.getElem?_eq_getElem hj
      obtain ⟨b, off, rfl, hb, c0, c1⟩ := (HC.out.below hnx) _ _ he
      obtain ⟨fn, tmps, assign, body, hy, hR⟩ := hY _ (backF ws k) wr hJs (by rw [uptoW_length]; exact hlt)
      have HJ2 := Lib.hid (fun (W' : World) (h : J (uptoW (backF ws) k ++ [backF ws k]) W') => (show J (uptoW (backF ws) (k + 1)) W' by rw [uptoW_succ]; exact h))
      have HX2 := Lib.hid (uptoW_succ (backF ws) k)
      rw [backF_at hlt he] at hy
      generalize ws[ws.length - 1 - k] = x at *
      obtain ⟨z, s⟩ := x
      obtain ⟨j, hje⟩ : ∃ j, j = ws.length - 1 - k := ⟨_, rfl⟩
      rw [← hje] at hy c0 c1 hj ⊢
      unfold Wt.v at hy
      dsimp only at hy c0 c1
      have k2 : IntKind.i64.wrap ((j : Int) - 1) = (j : Int) - 1 := IntWalk.i64_in _ (by omega)
      have HJE := Lib.hid hje
      clear hje
      gi_wp2
      refine hR.mono ?_
      rintro e W3 (⟨rfl, hJ3, hk3⟩ | ⟨rfl, hJx3⟩)
      · gi_wp2
        go_roundw
        case rel =>
          have hje := HJE.out
          refine ⟨k + 1, ?_, HJ2.out _ hJ3, hnx.trans hk3⟩
          by_cases hz : k + 1 = ws.length
          · exact .inr ⟨hz, by congr 1; omega⟩
          · exact .inl ⟨by omega, by congr 1; omega⟩
        case measure => simp [intOf]
      · gi_wp2
        refine bodyPost_ret (results_none rfl _ _ _) rfl ?_
        exact ⟨⟨_, rfl⟩, .inr ⟨_, ⟨k + 1, by omega, HX2.out.symm⟩, hJx3⟩⟩
    · gi_wp2
      go_end0
      exact ⟨⟨_, rfl⟩, .inl ⟨_, rfl, hJs⟩⟩

set_option maxHeartbeats 1000000 in
theorem back_in (F : Fence) (n : Nat) (h5 : F.fn 74) (hro : F.round = none) (a : Option Addr) (len cap : Nat) (w : World) :
    CallsIn F n Try.prog 74 #[.slice a len cap] w fun e w' => e = .returned (.func (.func 94) #[] #[.pointer (some ⟨w.heap.size, 0, none⟩)]) ∧ w' = w.alloc (.cells #[.slice a len cap] 49) := by
  refine callsIn_of_wp Try.func74 rfl h5 ?_ hro
  simp only [Try.ntmps74, List.size_toArray, List.length_cons, List.length_nil, Nat.reduceAdd, Nat.reduceSub, Array.replicate_succ, Array.replicate_zero, List.push_toArray, List.append_toArray, List.nil_append, List.cons_append]
  gi_wp2
  go_ret
  exact ⟨rfl, rfl⟩

theorem back_stops (F : Fence) (n : Nat) (h7 : F.fn 94) (hro : F.round = none) (hn : 1 ≤ n) (Bs n₀ cap : Nat) (A : Option Addr) (ws : List Wt) (hreach : ws.length ≤ 9223372036854775807) (w : World) (hBn : Bs < n₀) (hn₀ : n₀ ≤ w.heap.size)
    (hc : w.cell? ⟨Bs, 0, none⟩ = some (.slice A ws.length cap)) (hI : WRow n₀ w A ws) :
    SeqStopsK F n Try.prog 94 #[.pointer (some ⟨Bs, 0, none⟩)] (fun x : Nat × Wt => #[Value.int .i64 (x.1 : Int), x.2.v]) (Below n₀) (fun ys => ys = uptoW (backF ws) ws.length)
      (fun pre => ∃ k, k ≤ ws.length ∧ pre = uptoW (backF ws) k) ws.length w := fun l J Jx W hW _ _ hY h0 => by
  have hB := hW.mono hn₀
  exact back1_in F n h7 hro hn l Bs n₀ cap A ws hreach J Jx hY W hBn ((hB.cell (p := ⟨Bs, 0, none⟩) hBn).trans hc) (hI.below hB) h0
theorem boxed_below {W W' : World} {B : Nat} {t : TypeId} {v : Value} (h : Boxed W B t v) (hB : Below W.heap.size W W') : Boxed W' B t v := (hB.block B h.lt).trans h
theorem cell_put {W : World} {b D : Nat} {j : Nat} {v : Value} (h : W.cell? ⟨b, j, none⟩ = some v) (hK : W.heap[D]? = some (.deferred (some []))) : (W.putObj D (.deferred none)).cell? ⟨b, j, none⟩ = some v :=
  cell_kept h (grownBy_putObj' W D (.deferred none)) (fun r e => by cases e; exact ⟨_, hK, rfl⟩)

set_option maxHeartbeats 4000000 in
theorem look_any (w : World) (x : DA) (d : Dk) (a : Int) (h : DRd w x d) (ha : inB a 0 63 = true) (h64 : d.cells.length = 64) : Calls Try.prog 47 #[x.v, .int .i64 a] w fun e w' => e = .returned (.string (lookK d a)) ∧ Below w.heap.size w w' := by
  have hlW : d.waits.length = x.nW := h.lW
  have hreach : d.waits.length ≤ 9223372036854775807 := by have := h.hW; have := h.mW; omega
  obtain ⟨q, rfl⟩ : ∃ q : Nat, a = (q : Int) := ⟨a.toNat, by have := (inB_true ha).1; omega⟩
  have hq : q < 64 := by have := (inB_true ha).2; omega
  have hqC : q < x.nC := by rw [← h.lC, h64]; exact hq
  obtain ⟨bc, oc, sc, hxC, hbc, hec, cc⟩ := h.cells.str1 (k := q) (by rw [h64]; exact hq)
  have HQ := Lib.hid (show d.cells.getD ((q : Int)).toNat ⟨#[]⟩ = sc by rw [Int.toNat_natCast, List.getD_eq_getElem?_getD, hec]; rfl)
  have HN := Lib.hid (fun hn => (show lookK d (q : Int) = sc by unfold lookK; rw [lastW_none hn, HQ.out]; rfl))
  have HH := Lib.hid (fun k hk hn hx => (show lookK d (q : Int) = (backF d.waits k).2.text by unfold lookK; rw [lastW_hit (ws := d.waits) (k := k) hk hn hx]; rfl))
  have HW := Lib.hid (WRow.of h.waits)
  have hC := h.hC
  have mC := h.mC
  clear h h64 ha hec HQ
  obtain ⟨C, nC, cC, Wa, nW, cW, g⟩ := x
  unfold DA.v
  dsimp only at *
  subst hxC
  subst hlW
  generalize lookK d (q : Int) = res at *
  generalize d.waits = ws at *
  refine (callsIn_wide (n := 8)).1 ?_
  refine callsIn_of_wp_marks Try.func47 rfl trivial ?_ rfl
  simp only [Try.ntmps47, List.size_toArray, List.length_cons, List.length_nil, Nat.reduceAdd, Nat.reduceSub, Array.replicate_succ, Array.replicate_zero, List.push_toArray, List.append_toArray, List.nil_append, List.cons_append]
  gi_wp2_with (refine ⟨trivial, ?_⟩; gi_at_call 74; refine (back_in Fence.wide _ trivial rfl _ _ _ _).mono ?_; rintro e w' ⟨rfl, rfl⟩)
  have bD := (((box_new w #[.slice (some ⟨bc, oc, none⟩) nC cC, .slice Wa ws.length cW, .bool g] 51).alloc (.cells #[.int .i64 q] 3)).alloc (.cells #[.string ⟨#[]⟩] 9)).alloc (.cells #[.slice Wa ws.length cW] 49)
  have bA := ((Boxed.new (w.alloc (.cells #[.slice (some ⟨bc, oc, none⟩) nC cC, .slice Wa ws.length cW, .bool g] 51)) 3 (.int .i64 q)).alloc (.cells #[.string ⟨#[]⟩] 9)).alloc (.cells #[.slice Wa ws.length cW] 49)
  have bR := (Boxed.new ((w.alloc (.cells #[.slice (some ⟨bc, oc, none⟩) nC cC, .slice Wa ws.length cW, .bool g] 51)).alloc (.cells #[.int .i64 q] 3)) 9 (.string ⟨#[]⟩)).alloc (.cells #[.slice Wa ws.length cW] 49)
  have bN := Boxed.new (((w.alloc (.cells #[.slice (some ⟨bc, oc, none⟩) nC cC, .slice Wa ws.length cW, .bool g] 51)).alloc (.cells #[.int .i64 q] 3)).alloc (.cells #[.string ⟨#[]⟩] 9)) 49 (.slice Wa ws.length cW)
  simp only [World.size_alloc] at bA bR bN
  have hB0 : Below w.heap.size w ((((w.alloc (.cells #[.slice (some ⟨bc, oc, none⟩) nC cC, .slice Wa ws.length cW, .bool g] 51)).alloc (.cells #[.int .i64 q] 3)).alloc (.cells #[.string ⟨#[]⟩] 9)).alloc (.cells #[.slice Wa ws.length cW] 49)) := below_alloc (below_alloc (below_alloc (below_alloc (Below.refl _ _) _) _) _) _
  have hsz : ((((w.alloc (.cells #[.slice (some ⟨bc, oc, none⟩) nC cC, .slice Wa ws.length cW, .bool g] 51)).alloc (.cells #[.int .i64 q] 3)).alloc (.cells #[.string ⟨#[]⟩] 9)).alloc (.cells #[.slice Wa ws.length cW] 49)).heap.size = w.heap.size + 4 := by simp
  obtain ⟨W0, hW0⟩ : ∃ W0, ((((w.alloc (.cells #[.slice (some ⟨bc, oc, none⟩) nC cC, .slice Wa ws.length cW, .bool g] 51)).alloc (.cells #[.int .i64 q] 3)).alloc (.cells #[.string ⟨#[]⟩] 9)).alloc (.cells #[.slice Wa ws.length cW] 49)) = W0 := ⟨_, rfl⟩
  rw [hW0] at bD bA bR bN hB0 hsz ⊢
  clear hW0
  have HBN := Lib.hid bN.cell
  have HW0 := Lib.hid (((HW.out.below hB0)).more (show w.heap.size ≤ W0.heap.size by omega))
  have HDC := Lib.hid (show W0.cell? ⟨bc, oc + q, none⟩ = some (.string sc) from (hB0.cell (p := ⟨bc, oc + q, none⟩) hbc).trans cc)
  have HB0 := Lib.hid hB0
  have HD := Lib.hid bD
  have HAt := Lib.hid bA
  have HR := Lib.hid bR
  clear bN HW hB0 bD bA bR cc
  refine wpIn_rangeFunc_ownH rfl (by omega) (gf := 94) (lb := #[.pointer (some ⟨w.heap.size + 1 + 1 + 1, 0, none⟩)]) rfl trivial (enters_of Try.func94 (by kernel_rfl) rfl)
    (back_stops Fence.wide _ trivial rfl (by omega) (w.heap.size + 1 + 1 + 1) W0.heap.size cW Wa ws hreach W0 (by omega) (Nat.le_refl _) HBN.out HW0.out) belowK_t (belowK_b (Nat.le_refl _)) (Below.refl _ _) (fun _ => rfl)
    (fun pre W => (∀ p ∈ pre, p.2.at_ ≠ (q : Int)) ∧ Below W0.heap.size W0 W)
    (fun c pre W => ∃ ini last, (c = .ret ∧ pre = ini ++ [last] ∧ (∀ p ∈ ini, p.2.at_ ≠ (q : Int)) ∧ last.2.at_ = (q : Int)) ∧ Boxed W (w.heap.size + 1 + 1) 9 (.string last.2.text) ∧ Below w.heap.size w W)
    (OwnFrom.and (ownFrom_pure _ _) (ownFrom_below (Nat.le_refl _) (Nat.le_refl _)))
    (fun c s X Y row hs hg hr => by
      obtain ⟨ini, last, hp, hb, hB⟩ := hs
      exact ⟨ini, last, hp, boxed_own _ _ (fun (_ : Unit) => Value.string last.2.text) () X Y row hb hg (fun r e => (hr r e).2), ownFrom_below (β := Unit) (Nat.le_refl _) (by omega : w.heap.size ≤ W0.heap.size) () X Y row hB hg hr⟩)
    ⟨by simp, Below.refl _ _⟩
    (fun x a' W => ∃ Bx, W0.heap.size ≤ Bx ∧ BoxAt W Bx #[.int .i64 x.2.at_, .string x.2.text] 75 ∧ a' = { tmps := #[.agg #[.slice (some ⟨bc, oc, none⟩) nC cC, .slice Wa ws.length cW, .bool g], .int .i64 q, .pointer (some ⟨w.heap.size, 0, none⟩), .pointer (some ⟨w.heap.size + 1, 0, none⟩), .pointer (some ⟨w.heap.size + 1 + 1, 0, none⟩), undef, .pointer (some ⟨Bx, 0, none⟩), .pointer (some ⟨w.heap.size, 1, none⟩), .slice Wa ws.length cW, .func (.func 94) #[] #[.pointer (some ⟨w.heap.size + 1 + 1 + 1, 0, none⟩)], .int .i64 (x.1 : Int), .agg #[.int .i64 x.2.at_, .string x.2.text], undef, undef, undef, undef, undef, undef, undef, undef, undef, undef, undef], defers := [] })
    (fun x a' _ X Y row hs hg hr => by obtain ⟨Bx, e1, e2, e3⟩ := hs; exact ⟨Bx, e1, boxAt_own (β := Unit) Bx _ _ () X Y row e2 hg (fun r e => (hr r e).2), e3⟩)
    ?assign ?body ?done ?stop
  case assign =>
    rintro l pre ⟨i, z, s⟩ W K ⟨hp, hB1⟩ hK
    unfold Wt.v
    dsimp only at *
    gi_wp2
    exact hK _ _ ((KeepsOthers.alloc _ _).from _) ((Below.refl _ W).alloc hB1.size _) ⟨hp, hB1.alloc hB1.size _⟩ ⟨W.heap.size, hB1.size, box_new W _ _, rfl⟩
  case body =>
    rintro l pre ⟨i, z, s⟩ a' W hl _ ⟨hp, hB1⟩ ⟨Bx, hBx, bX, rfl⟩ hlt
    dsimp only at *
    have bR1 := boxed_below HR.out hB1
    have cA := (boxed_below HAt.out hB1).cell
    have cX := BoxAt.cell bX
    have cX0 : W.cell? ⟨Bx, 0, none⟩ = some (.int .i64 z) := cX 0
    have cX1 : W.cell? ⟨Bx, 1, none⟩ = some (.string s) := cX 1
    have cR := bR1.cell
    have fR := bR1.frozen
    have HBR := Lib.hid bR1
    have HBW := Lib.hid (HB0.out.trans (hB1.mono (show w.heap.size ≤ W0.heap.size by omega)))
    clear cX bR1
    by_cases hz : z = (q : Int)
    · subst hz
      gi_wp2
      refine ⟨(KeepsOthers.setCell _ _ _).from _, pre, (i, ⟨(q : Int), s⟩), ⟨rfl, rfl, hp, rfl⟩, HBR.out.set _, HBW.out.setCell (p := ⟨w.heap.size + 1 + 1, 0, none⟩) (by dsimp only; omega) _⟩
    · have hzb : (z == (q : Int)) = false := by simpa using hz
      gi_wp2
      exact ⟨KeepsFrom.refl _ _, Below.refl _ _, fun p hp' => (List.mem_append.1 hp').elim (hp p) (fun e => by simp at e; subst e; exact hz), hB1⟩
  case done =>
    rintro D ys W hD rfl ⟨hp, hB1⟩ hK
    have HRES := Lib.hid (HN.out hp)
    have bR1 := boxed_below HR.out hB1
    have cA := (boxed_below HAt.out hB1).cell
    have cD := (BoxAt.below HD.out hB1).cell
    have cD0 : W.cell? ⟨w.heap.size, 0, none⟩ = some (.slice (some ⟨bc, oc, none⟩) nC cC) := cD 0
    have cR := bR1.cell
    have fR := bR1.frozen
    have cC := (hB1.cell (p := ⟨bc, oc + q, none⟩) (show bc < W0.heap.size by omega)).trans HDC.out
    have HBR := Lib.hid bR1
    have HBW := Lib.hid (HB0.out.trans (hB1.mono (show w.heap.size ≤ W0.heap.size by omega)))
    clear cD bR1 hp
    gi_wp2
    have hK' := (KeepsOthers.setCell W ⟨w.heap.size + 1 + 1, 0, none⟩ (.string sc)).same D _ hK rfl
    refine ⟨by simp, .inl ⟨_, _, rfl, run_takeDeferred hK', ?_⟩⟩
    have hc5 := cell_put (HBR.out.set (.string sc)).cell hK'
    refine ⟨.string sc, ?_, by rw [HRES.out], (HBW.out.setCell (p := ⟨w.heap.size + 1 + 1, 0, none⟩) (by dsimp only; omega) _).trans (belowK_b (w := w) (Nat.le_refl _) _ D _ _ (by omega) hK' rfl rfl)⟩
    simp [results, Try.results47, go_sem, hc5]
  case stop =>
    rintro D c pre W hD ⟨k, hk, rfl⟩ ⟨ini, last, ⟨rfl, e1, e2, e3⟩, bR1, hB⟩ hK
    obtain ⟨k', rfl⟩ : ∃ k', k = k' + 1 := by
      cases k with
      | zero => simp [uptoW] at e1
      | succ k' => exact ⟨k', rfl⟩
    rw [uptoW_succ] at e1
    obtain ⟨rfl, e5⟩ := List.append_inj' e1 rfl
    obtain rfl : backF ws k' = last := by simpa using e5
    have HRES := Lib.hid (HH.out k' (by omega) e2 e3)
    generalize (backF ws k').2.text = tx at *
    clear e1 e2 e3 e5
    gi_wp2
    refine ⟨by simp, .inl ⟨_, _, rfl, run_takeDeferred hK, ?_⟩⟩
    have hc5 := cell_put bR1.cell hK
    refine ⟨.string tx, ?_, by rw [HRES.out], hB.trans (belowK_b (w := w) (Nat.le_refl _) W D _ _ (by omega) hK rfl rfl)⟩
    simp [results, Try.results47, go_sem, hc5]

set_option maxHeartbeats 2000000 in
theorem l3Read_any (w : World) (x : DA) (d : Dk) (a : Int) (h : DRd w x d) (ha : inB a 0 63 = true) (h64 : d.cells.length = 64) : Calls Try.prog 82 #[x.v, .int .i64 a] w fun e w' => e = .returned (.string (lookK d a)) ∧ Below w.heap.size w w' := by
  have hlW : d.waits.length = x.nW := h.lW
  have hreach : d.waits.length ≤ 9223372036854775807 := by have := h.hW; have := h.mW; omega
  obtain ⟨q, rfl⟩ : ∃ q : Nat, a = (q : Int) := ⟨a.toNat, by have := (inB_true ha).1; omega⟩
  have hq : q < 64 := by have := (inB_true ha).2; omega
  have hqC : q < x.nC := by rw [← h.lC, h64]; exact hq
  obtain ⟨bc, oc, sc, hxC, hbc, hec, cc⟩ := h.cells.str1 (k := q) (by rw [h64]; exact hq)
  have HQ := Lib.hid (show d.cells.getD ((q : Int)).toNat ⟨#[]⟩ = sc by rw [Int.toNat_natCast, List.getD_eq_getElem?_getD, hec]; rfl)
  have HN := Lib.hid (fun hn => (show lookK d (q : Int) = sc by unfold lookK; rw [lastW_none hn, HQ.out]; rfl))
  have HH := Lib.hid (fun k hk hn hx => (show lookK d (q : Int) = (backF d.waits k).2.text by unfold lookK; rw [lastW_hit (ws := d.waits) (k := k) hk hn hx]; rfl))
  have HW := Lib.hid (WRow.of h.waits)
  have hC := h.hC
  have mC := h.mC
  clear h h64 ha hec HQ
  obtain ⟨C, nC, cC, Wa, nW, cW, g⟩ := x
  unfold DA.v
  dsimp only at *
  subst hxC
  subst hlW
  generalize lookK d (q : Int) = res at *
  generalize d.waits = ws at *
  have HBa := Lib.hid (below_alloc (Below.refl w.heap.size w) (.cells #[.slice (some ⟨bc, oc, none⟩) nC cC, .slice Wa ws.length cW, .bool g] 51))
  have w1 : IntKind.i64.wrap ((ws.length : Int) - 1) = (ws.length : Int) - 1 := IntWalk.i64_in _ (by omega)
  go_enter Try.func82, Try.ntmps82
  go_wp2_with fail
  go_loop [5] (fun i => ∃ k : Nat, ((k < ws.length ∧ i = .int .i64 ((ws.length - 1 - k : Nat) : Int)) ∨ (k = ws.length ∧ i = .int .i64 (-1))) ∧ Hid (∀ p ∈ uptoW (backF ws) k, p.2.at_ ≠ (q : Int)))
    (fun i => (intOf i + 1).toNat)
  case atStart =>
    refine ⟨0, ?_, Lib.hid (by simp [uptoW])⟩
    by_cases hz : ws.length = 0
    · exact .inr ⟨hz.symm, by rw [hz]; rfl⟩
    · exact .inl ⟨by omega, by congr 1; omega⟩
  case round =>
    obtain ⟨k, hcase, HP⟩ := hrel
    rcases hcase with ⟨hlt, rfl⟩ | ⟨rfl, rfl⟩
    · have hj : ws.length - 1 - k < ws.length := by omega
      have he : ws[ws.length - 1 - k]? = some ws[ws.length - 1 - k] := List.getElem?_eq_getElem hj
      obtain ⟨b, off, rfl, hb, c0, c1⟩ := HW.out _ _ he
      have HF := Lib.hid (backF_at hlt he)
      generalize ws[ws.length - 1 - k] = x at *
      obtain ⟨z, s⟩ := x
      obtain ⟨j, hje⟩ : ∃ j, j = ws.length - 1 - k := ⟨_, rfl⟩
      rw [← hje] at c0 c1 hj ⊢
      dsimp only at c0 c1
      have k2 : IntKind.i64.wrap ((j : Int) - 1) = (j : Int) - 1 := IntWalk.i64_in _ (by omega)
      have HJE := Lib.hid hje
      clear hje he
      by_cases hz : z = (q : Int)
      · subst hz
        have HRES := Lib.hid ((HH.out k hlt HP.out (congrArg (fun p => p.2.at_) HF.out)).trans (congrArg (fun p => p.2.text) HF.out))
        dsimp only at HRES
        clear HF HP HH HN
        go_wp2_with fail
        go_ret
        exact ⟨ret_str HRES.out.symm, HBa.out⟩
      · have hzb : (z == (q : Int)) = false := by simpa using hz
        have HP2 := Lib.hid (show ∀ p ∈ uptoW (backF ws) (k + 1), p.2.at_ ≠ (q : Int) by
          rw [uptoW_succ, HF.out]
          intro p hp
          exact (List.mem_append.1 hp).elim (HP.out p) (fun e => by simp at e; subst e; exact hz))
        clear HF HP HH HN hz
        go_wp2_with fail
        refine ⟨⟨k + 1, ?_, HP2⟩, by simp [intOf]⟩
        have hje := HJE.out
        by_cases hz : k + 1 = ws.length
        · exact .inr ⟨hz, by congr 1; omega⟩
        · exact .inl ⟨by omega, by congr 1; omega⟩
    · have HRES := Lib.hid (HN.out HP.out)
      clear HP HN HH HW
      generalize ws.length = n at *
      go_wp2_with fail
      go_ret
      exact ⟨ret_str HRES.out.symm, HBa.out⟩

end Go.Proofs.Ytamljoffmkcbnaa
