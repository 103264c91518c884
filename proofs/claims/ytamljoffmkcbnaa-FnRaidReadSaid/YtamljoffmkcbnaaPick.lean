/- The drawing of numbers from a code ('pick'): it returns a number from 0 to n-1 and moves the reader on; nothing else turns. -/
import Derived.Test.YtamljoffmkcbnaaMem
import Derived.Laws.BitsAllLaws
namespace Go.Proofs.Ytamljoffmkcbnaa
open Go.RowKit
set_option linter.unusedVariables false

theorem i64_xor_nat (a b : Nat) (ha : a < 9223372036854775808) (hb : b < 9223372036854775808) : bits .xor .i64 (a : Int) (b : Int) = ((a ^^^ b : Nat) : Int) := by
  have hx : a ^^^ b < 2 ^ 63 := Nat.xor_lt_two_pow (by omega) (by omega)
  show IntKind.i64.wrap ((BitVec.ofInt 64 (a : Int) ^^^ BitVec.ofInt 64 (b : Int)).toNat : Int) = _
  rw [BitVec.toNat_xor, ofInt_u64 a (by omega), ofInt_u64 b (by omega), IntKind.wrap_i64]
  omega
theorem i64_xor_bd (x : Int) (h0 : 0 ≤ x) (h1 : x < 9223372036854775808) : 0 ≤ bits .xor .i64 x (x / 64) ∧ bits .xor .i64 x (x / 64) < 9223372036854775808 := by
  obtain ⟨X, rfl⟩ := Int.eq_ofNat_of_zero_le h0
  have hx : X ^^^ X / 64 < 2 ^ 63 := Nat.xor_lt_two_pow (by omega) (by omega)
  have e : ((X : Int) / 64) = ((X / 64 : Nat) : Int) := by omega
  show 0 ≤ bits .xor .i64 (X : Int) ((X : Int) / 64) ∧ bits .xor .i64 (X : Int) ((X : Int) / 64) < 9223372036854775808
  rw [e, i64_xor_nat X (X / 64) (by omega) (by omega)]
  omega

/-- The reader's block: the code (at most 2000 bytes) and the place, which is p. -/
def Rs (w : World) (rb p : Nat) : Prop :=
  ∃ (A : Option Addr) (cap : Nat) (zs : List Int), w.heap[rb]? = some (.cells #[.slice A zs.length cap, .int .i64 p] 90 (0, 0)) ∧ zs.length ≤ 2000 ∧ (∀ z ∈ zs, 0 ≤ z ∧ z ≤ 255) ∧
    RdT (encI .u8) 1 w A zs ∧ (0 < zs.length → ∀ a, A = some a → a.block < rb)

theorem Rs.lt {w : World} {rb p : Nat} (h : Rs w rb p) : rb < w.heap.size := by
  obtain ⟨A, cap, zs, h, _⟩ := h
  rcases Nat.lt_or_ge rb w.heap.size with hlt | hge
  · exact hlt
  · rw [Array.getElem?_eq_none hge] at h; cases h
theorem Rs.keep {w w' : World} {rb p : Nat} (h : Rs w rb p) (hs : w.heap.size ≤ w'.heap.size) (hb : ∀ k, k ≤ rb → w'.heap[k]? = w.heap[k]?) : Rs w' rb p := by
  obtain ⟨A, cap, zs, h1, h2, h3, h4, h5⟩ := h
  exact ⟨A, cap, zs, (hb rb (Nat.le_refl _)).trans h1, h2, h3, h4.keep hs (fun hn a ha _ => hb _ (Nat.le_of_lt (h5 hn a ha))), h5⟩
theorem Rs.kp {w w' : World} {rb p : Nat} {ex : List Nat} (h : Rs w rb p) (hk : Kp ex w w') (he : ∀ k ∈ ex, rb < k) : Rs w' rb p :=
  h.keep hk.size (fun k hl => hk.block k (by have := h.lt; omega) (fun hm => by have := he k hm; omega))
theorem Rs.below {w w' : World} {rb p : Nat} (h : Rs w rb p) (hk : Below w.heap.size w w') : Rs w' rb p := h.kp (Kp.of_below hk) (fun _ hm => by cases hm)

theorem Rs.alloc {w : World} {rb p : Nat} (h : Rs w rb p) (o : Obj) : Rs (w.alloc o) rb p := h.kp ((Kp.refl [] w).alloc o) (fun _ hm => by cases hm)
theorem Rs.drew {w : World} {rb p : Nat} (h : Rs w rb p) : Rs w.drew rb p := h
theorem Rs.drewN {w : World} {rb p : Nat} (h : Rs w rb p) (n : Nat) : Rs (w.drewN n) rb p := h

/-- The walk's rule behind a call that writes one known block. -/
theorem Kp.rule {rb : Nat} {W w' : World} (hk : Kp [rb] W w') : ∀ b o, b < W.heap.size → ¬ b = rb → w'.cell? ⟨b, o, none⟩ = W.cell? ⟨b, o, none⟩ := fun b o h1 h2 => hk.cell h1 (by simpa using h2)

def PickPost (w : World) (rb p : Nat) (m : Int) (e : Ending) (w' : World) : Prop :=
  ∃ j : Int, e = .returned (.int .i64 j) ∧ 0 ≤ j ∧ (j < m ∨ j = 0) ∧ Rs w' rb (p + 1) ∧ Kp [rb] w w'

theorem pick_end {w : World} {rb p : Nat} {m j : Int} (q : Nat) (h : Rs w rb p) (h0 : 0 ≤ j) (h1 : j < m ∨ j = 0) : PickPost w rb p m (.returned (.int .i64 j)) ((w.setCell ⟨rb, 1, none⟩ (.int .i64 (p + 1))).drewN q) := by
  have hlt := h.lt
  obtain ⟨A, cap, zs, g1, g2, g3, g4, g5⟩ := h
  have hk : Kp [rb] w ((w.setCell ⟨rb, 1, none⟩ (.int .i64 (p + 1))).drewN q) := ((Kp.refl [rb] w).setCell (.inl (by simp)) _).drewN q
  refine ⟨j, rfl, h0, h1, ⟨A, cap, zs, ?_, g2, g3, g4.kp hk (fun hn a ha hm => ?_), g5⟩, hk⟩
  · show (w.setCell ⟨rb, 1, none⟩ (.int .i64 (p + 1))).heap[rb]? = _
    simp [World.setCell, Array.getElem?_modify, g1]
  · have := g5 hn a ha
    simp at hm
    omega
theorem pick_end0 {w : World} {rb p : Nat} {m j : Int} (h : Rs w rb p) (h0 : 0 ≤ j) (h1 : j < m ∨ j = 0) : PickPost w rb p m (.returned (.int .i64 j)) (w.setCell ⟨rb, 1, none⟩ (.int .i64 (p + 1))) := pick_end 0 h h0 h1

set_option maxHeartbeats 800000 in
theorem pick_any (w : World) (rb p : Nat) (m : Int) (h : Rs w rb p) (hp : p ≤ 1000000000) (hm : m ≤ 1000000000) :
    Calls Try.prog 62 #[.pointer (some ⟨rb, 0, none⟩), .int .i64 m] w (PickPost w rb p m) := by
  have hR := Lib.hid h
  obtain ⟨A, cap, zs, g1, g2, g3, g4, g5⟩ := h
  have c0 : w.cell? ⟨rb, 0, none⟩ = some (.slice A zs.length cap) := by simp [World.cell?, g1]
  have c1 : w.cell? ⟨rb, 1, none⟩ = some (.int .i64 p) := by simp [World.cell?, g1]
  have f1 : w.frozen? ⟨rb, 1, none⟩ = false := by simp [World.frozen?, g1]
  by_cases h1 : m < 1
  · clear g1 g3 g4 g5
    go_enter Try.func62, Try.ntmps62
    go_wp2
    go_ret
    exact pick_end0 (j := 0) hR.out (Int.le_refl 0) (.inr rfl)
  · by_cases h2 : zs.length = 0
    · have e2 : ((zs.length : Int) == 0) = true := by simp [h2]
      clear g1 g3 g4 g5 h2
      go_enter Try.func62, Try.ntmps62
      go_wp2
      go_ret
      exact pick_end0 (j := 0) hR.out (Int.le_refl 0) (.inr rfl)
    · have e2 : ((zs.length : Int) == 0) = false := by simpa using h2
      obtain ⟨b, off, rfl, hb, hc⟩ := g4 (by omega)
      have hne : b < rb := g5 (by omega) _ rfl
      have one : ∀ k, k < zs.length → ∃ z : Int, w.cell? ⟨b, off + k, none⟩ = some (.int .u8 z) ∧ 0 ≤ z ∧ z ≤ 255 := fun k hk => by
        have := hc k zs[k] (List.getElem?_eq_getElem hk) 0 (by omega)
        exact ⟨zs[k], by simpa [encI] using this, g3 _ (List.getElem_mem _)⟩
      clear g1 g3 g5 hc
      by_cases h3 : p < zs.length
      · obtain ⟨z, hz, hz0, hz1⟩ := one p h3
        clear one h2
        go_enter Try.func62, Try.ntmps62
        go_wp2
        go_ret
        exact pick_end0 hR.out (Int.emod_nonneg _ (by omega)) (.inl (Int.emod_lt_of_pos _ (by omega)))
      · have hL : 0 < zs.length := by omega
        obtain ⟨n, hn⟩ : ∃ n, n = zs.length := ⟨_, rfl⟩
        rw [← hn] at c0 h3 hL e2 one g2 h2
        obtain ⟨q, hq, eq⟩ : ∃ q : Nat, q < n ∧ (p : Int) % (n : Int) = (q : Int) := ⟨p % n, Nat.mod_lt _ hL, by simp⟩
        obtain ⟨r, hr, er⟩ : ∃ r : Nat, r < n ∧ ((p : Int) * 7 + 3) % (n : Int) = (r : Int) := ⟨(p * 7 + 3) % n, Nat.mod_lt _ hL, by simp⟩
        obtain ⟨d, hd, ed⟩ : ∃ d : Nat, d ≤ p ∧ (p : Int) / (n : Int) = (d : Int) := ⟨p / n, Nat.div_le_self _ _, by simp⟩
        obtain ⟨z, hz, hz0, hz1⟩ := one q hq
        obtain ⟨y, hy, hy0, hy1⟩ := one r hr
        have HN := Lib.hid hn
        have hx := i64_xor_bd (z * 131 + y * 1117 + (p : Int) * 29 + (d : Int) * 53) (by omega) (by omega)
        clear one h2 hn
        go_enter Try.func62, Try.ntmps62
        go_wp2
        go_quiet (fail)
        go_wp2
        go_ret
        exact pick_end nq hR.out (Int.emod_nonneg _ (by omega)) (.inl (Int.emod_lt_of_pos _ (by omega)))

def OpenPost (w : World) (e : Ending) (w' : World) : Prop := e = .returned (.pointer (some ⟨w.heap.size, 0, none⟩)) ∧ Rs w' w.heap.size 0 ∧ Below w.heap.size w w'

theorem open_end {w : World} {A : Option Addr} {cap : Nat} {zs : List Int} (h : RdT (encI .u8) 1 w A zs) (hb : ∀ z ∈ zs, 0 ≤ z ∧ z ≤ 255) (hn : zs.length ≤ 2000) :
    OpenPost w (.returned (.pointer (some ⟨w.heap.size, 0, none⟩))) (w.alloc (.cells #[.slice A zs.length cap, .int .i64 0] 90)) := by
  have hB : Below w.heap.size w (w.alloc (.cells #[.slice A zs.length cap, .int .i64 0] 90)) := (Below.refl _ _).alloc (Nat.le_refl _) _
  refine ⟨rfl, ⟨A, cap, zs, ?_, hn, hb, h.below hB, fun hp a ha => h.lt hp a ha⟩, hB⟩
  show (w.heap.push _)[w.heap.size]? = _
  simp

/-- As 'pick_any' where there is something to choose: the number as a natural one. -/
def Pick1 (w : World) (rb p m : Nat) (e : Ending) (w' : World) : Prop :=
  ∃ k : Nat, e = .returned (.int .i64 (k : Int)) ∧ k < m ∧ Rs w' rb (p + 1) ∧ Kp [rb] w w'
theorem pick_nat (w : World) (rb p : Nat) (m : Int) (h : Rs w rb p) (hp : p ≤ 1000000000) (hm : m ≤ 1000000000) (h1 : 1 ≤ m) :
    Calls Try.prog 62 #[.pointer (some ⟨rb, 0, none⟩), .int .i64 m] w (Pick1 w rb p m.toNat) :=
  (pick_any w rb p m h hp hm).mono fun e w' ⟨j, he, h0, h1', hr, hk⟩ => ⟨j.toNat, by rw [he, Int.toNat_of_nonneg h0], by omega, hr, hk⟩

/-- A literal row of numbers, read at some place. -/
theorem lit_int (l : List Int) (k : Nat) (h : k < l.length) : ∃ z : Int, (l.map (Value.int .i64)).toArray[k]? = some (.int .i64 z) := ⟨l[k], by simp [List.getElem?_eq_getElem h]⟩

theorem open_any (w : World) (A : Option Addr) (cap : Nat) (zs : List Int) (h : RdT (encI .u8) 1 w A zs) (hb : ∀ z ∈ zs, 0 ≤ z ∧ z ≤ 255) (hc : zs.length ≤ cap) (hm : cap ≤ 9223372036854775807) :
    Calls Try.prog 38 #[.slice A zs.length cap] w (OpenPost w) := by
  by_cases h1 : 2000 < zs.length
  · have he := open_end (cap := cap) (h.take 2000) (fun z hz => hb z (List.mem_of_mem_take hz)) (by rw [List.length_take]; omega)
    rw [List.length_take, Nat.min_eq_left (by omega)] at he
    have HE := Lib.hid he
    obtain ⟨b, off, rfl, _⟩ := h (by omega)
    clear he h hb
    generalize zs.length = n at h1 hc ⊢
    go_enter Try.func38, Try.ntmps38
    go_wp2
    go_ret
    exact HE.out
  · have HE := Lib.hid (open_end (cap := cap) h hb (by omega))
    clear h hb
    generalize zs.length = n at h1 hc HE ⊢
    go_enter Try.func38, Try.ntmps38
    go_wp2
    go_ret
    exact HE.out

end Go.Proofs.Ytamljoffmkcbnaa
