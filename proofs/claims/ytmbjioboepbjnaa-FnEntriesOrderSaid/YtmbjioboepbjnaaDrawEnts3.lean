/- What the laws on entries draw: a list, a name and a number. -/
import Derived.Test.YtmbjioboepbjnaaDrawEnts2
import Derived.Deep.DrawnRows
namespace Go.Proofs.Ytmbjioboepbjnaa
open Go.RowKit
set_option linter.unusedVariables false
set_option linter.unusedSimpArgs false
attribute [local go_sem ↓] Go.wp_at_zero Go.wp_at_succ

/-- The list, the reader, and old memory. -/
def LA (w : World) (q : Nat) (l : List Ent) (v : Value) (wr : World) : Prop := Own encE 2 32 (w.heap.size + 1) wr v l ∧ (∀ x ∈ l, x.name.size ≤ 100) ∧ Rs wr w.heap.size q ∧ Below w.heap.size w wr
theorem la_of {w W wr : World} {q : Nat} {l : List Ent} {v : Value} (hB : Below w.heap.size w W) (hlt : w.heap.size < W.heap.size) (h : EntAt W w.heap.size q l v wr) : LA w q l v wr := ⟨h.1.more hlt, h.2.1, h.2.2.1, kp_belowE hB h.2.2.2 (Nat.le_refl _)⟩
theorem la_pick {w wr w' : World} {q q' : Nat} {l : List Ent} {v : Value} (h : LA w q l v wr) (hr : Rs w' w.heap.size q') (hk : Kp [w.heap.size] wr w') : LA w q' l v w' :=
  ⟨h.1.kp hk (fun b hb e => by simp at hb; subst hb; have := own_baseE h.1 _ e; omega), h.2.1, hr, kp_belowE h.2.2.2 hk (Nat.le_refl _)⟩
theorem la_alloc {w wr : World} {q : Nat} {l : List Ent} {v : Value} (h : LA w q l v wr) (o : Obj) : LA w q l v (wr.alloc o) := ⟨own_alloc h.1 o, h.2.1, Rs.alloc h.2.2.1 o, below_alloc h.2.2.2 o⟩
theorem la_end {w wr : World} {q : Nat} {l : List Ent} {v : Value} {s : ByteArray} {n : Int} (h : LA w q l v wr) (hl : l.length ≤ 13) (hs : s.size ≤ 100) : EntsI w (.returned (.tuple #[v, .string s, .int .i64 n])) wr :=
  ⟨v, l, s, n, rfl, h.1.more (by omega), hl, h.2.1, hs, h.2.2.2⟩
theorem mul_in (a b : Nat) (ha : a < 2) (hb : b < 3) : 0 ≤ (a : Int) * (b : Int) ∧ (a : Int) * (b : Int) ≤ 2 := by
  rcases (show a = 0 ∨ a = 1 by omega) with rfl | rfl <;> simp <;> omega

set_option maxHeartbeats 20000000 in
theorem drawEntriesAdd_any (w : World) (A : Option Addr) (cap : Nat) (zs : List Int) (h : RdT (encI .u8) 1 w A zs) (hb : ∀ z ∈ zs, 0 ≤ z ∧ z ≤ 255) (hc : zs.length ≤ cap) (hm : cap ≤ 9223372036854775807) :
    Calls Try.prog 5 #[.slice A zs.length cap] w (EntsI w) := by
  have HO := Lib.hid (open_any w A cap zs h hb hc hm)
  clear h hb
  generalize zs.length = n at HO hc ⊢
  go_enter Try.func5, Try.ntmps5
  go_wp2_with fail
  refine Calls.mono HO.out ?_
  rintro e w1 ⟨rfl, hr, hB⟩
  have hl := hr.lt
  have hne : ¬ w1.heap.size = w.heap.size := by omega
  have HB1 := Lib.hid (Below.drew hB)
  have HB2 := Lib.hid (fun o => Below.drew (below_alloc hB o))
  clear hB HO
  go_wp2_with fail
  go_region_with (first
    | (go_at_call 13; refine Calls.mono (l92Entries_any _ w.heap.size 0 (by first | with_reducible exact Rs.drew hr | with_reducible exact Rs.drew (Rs.alloc hr _)) ?h1) ?_; (case h1 => omega); rintro e w2 ⟨v, l, q, rfl, hln, hq, hT⟩; have hru2 := hT.2.2.2.rule; have hsz2 := hT.2.2.2.size; (try simp only [World.size_alloc, World.size_drew, Nat.add_one_le_iff] at hsz2); have hne2 : ¬ w2.heap.size = w.heap.size := (by omega); have HT2 := Lib.hid (la_of (by first | with_reducible exact HB1.out | with_reducible exact HB2.out _) (by first | exact hl | (simp; omega)) hT); have RR2 := Lib.hid HT2.out.2.2.1; clear hT)
    | (have _g := HT2; go_at_call 14; clear _g; refine Calls.mono (l92Name_any _ w.heap.size (0 + q) (by first | with_reducible exact RR2.out | with_reducible exact Rs.alloc RR2.out _) ?h1) ?_; (case h1 => omega); rintro e w3 ⟨s, q3, rfl, hs, hr3, hq3, hk3⟩; have hru3 := hk3.rule; have hsz3 := hk3.size; (try simp only [World.size_alloc, World.size_drew, Nat.add_one_le_iff] at hsz3); (try have hz13 : w1.heap.size < w3.heap.size := (by omega)); (try have hz23 : w2.heap.size < w3.heap.size := (by omega)); have hne3 : ¬ w3.heap.size = w.heap.size := (by omega); have HT3 := Lib.hid (la_pick (by first | with_reducible exact HT2.out | with_reducible exact la_alloc HT2.out _) hr3 hk3); have RR3 := Lib.hid HT3.out.2.2.1; clear hk3 hr3)
    | (have _g := HT6; go_at_call 15; clear _g; refine Calls.mono (pick_nat _ w.heap.size (0 + q + q3 + 1 + 1 + 1) 3 (by first | with_reducible exact RR6.out | with_reducible exact Rs.alloc RR6.out _) ?h1 ?h2 ?h3) ?_; (case h1 => omega); (case h2 => omega); (case h3 => omega); rintro e w7 ⟨k7, rfl, hk7, hr7, hkk7⟩; have hru7 := hkk7.rule; have hsz7 := hkk7.size; (try simp only [World.size_alloc, World.size_drew, Nat.add_one_le_iff] at hsz7); (try have hz17 : w1.heap.size < w7.heap.size := (by omega)); (try have hz27 : w2.heap.size < w7.heap.size := (by omega)); (try have hz37 : w3.heap.size < w7.heap.size := (by omega)); (try have hz47 : w4.heap.size < w7.heap.size := (by omega)); (try have hz57 : w5.heap.size < w7.heap.size := (by omega)); (try have hz67 : w6.heap.size < w7.heap.size := (by omega)); have hne7 : ¬ w7.heap.size = w.heap.size := (by omega); have HT7 := Lib.hid (la_pick (by first | with_reducible exact HT6.out | with_reducible exact la_alloc HT6.out _) hr7 hkk7); have RR7 := Lib.hid HT7.out.2.2.1; have hk7' : k7 < 3 := (by simpa using hk7); have hm7 := mul_in k6 k7 hk6' hk7'; clear hkk7 hr7 hk7)
    | (have _g := HT5; go_at_call 15; clear _g; refine Calls.mono (pick_nat _ w.heap.size (0 + q + q3 + 1 + 1) 2 (by first | with_reducible exact RR5.out | with_reducible exact Rs.alloc RR5.out _) ?h1 ?h2 ?h3) ?_; (case h1 => omega); (case h2 => omega); (case h3 => omega); rintro e w6 ⟨k6, rfl, hk6, hr6, hkk6⟩; have hru6 := hkk6.rule; have hsz6 := hkk6.size; (try simp only [World.size_alloc, World.size_drew, Nat.add_one_le_iff] at hsz6); (try have hz16 : w1.heap.size < w6.heap.size := (by omega)); (try have hz26 : w2.heap.size < w6.heap.size := (by omega)); (try have hz36 : w3.heap.size < w6.heap.size := (by omega)); (try have hz46 : w4.heap.size < w6.heap.size := (by omega)); (try have hz56 : w5.heap.size < w6.heap.size := (by omega)); have hne6 : ¬ w6.heap.size = w.heap.size := (by omega); have HT6 := Lib.hid (la_pick (by first | with_reducible exact HT5.out | with_reducible exact la_alloc HT5.out _) hr6 hkk6); have RR6 := Lib.hid HT6.out.2.2.1; have hk6' : k6 < 2 := (by simpa using hk6); clear hkk6 hr6 hk6)
    | (have _g := HT4; go_at_call 15; clear _g; refine Calls.mono (pick_nat _ w.heap.size (0 + q + q3 + 1) 17 (by first | with_reducible exact RR4.out | with_reducible exact Rs.alloc RR4.out _) ?h1 ?h2 ?h3) ?_; (case h1 => omega); (case h2 => omega); (case h3 => omega); rintro e w5 ⟨k5, rfl, hk5, hr5, hkk5⟩; have hru5 := hkk5.rule; have hsz5 := hkk5.size; (try simp only [World.size_alloc, World.size_drew, Nat.add_one_le_iff] at hsz5); (try have hz15 : w1.heap.size < w5.heap.size := (by omega)); (try have hz25 : w2.heap.size < w5.heap.size := (by omega)); (try have hz35 : w3.heap.size < w5.heap.size := (by omega)); (try have hz45 : w4.heap.size < w5.heap.size := (by omega)); have hne5 : ¬ w5.heap.size = w.heap.size := (by omega); have HT5 := Lib.hid (la_pick (by first | with_reducible exact HT4.out | with_reducible exact la_alloc HT4.out _) hr5 hkk5); have RR5 := Lib.hid HT5.out.2.2.1; have hk5' : k5 < 17 := (by simpa using hk5); clear hkk5 hr5 hk5)
    | (have _g := HT3; go_at_call 15; clear _g; refine Calls.mono (pick_nat _ w.heap.size (0 + q + q3) 2 (by first | with_reducible exact RR3.out | with_reducible exact Rs.alloc RR3.out _) ?h1 ?h2 ?h3) ?_; (case h1 => omega); (case h2 => omega); (case h3 => omega); rintro e w4 ⟨k4, rfl, hk4, hr4, hkk4⟩; have hru4 := hkk4.rule; have hsz4 := hkk4.size; (try simp only [World.size_alloc, World.size_drew, Nat.add_one_le_iff] at hsz4); (try have hz14 : w1.heap.size < w4.heap.size := (by omega)); (try have hz24 : w2.heap.size < w4.heap.size := (by omega)); (try have hz34 : w3.heap.size < w4.heap.size := (by omega)); have hne4 : ¬ w4.heap.size = w.heap.size := (by omega); have HT4 := Lib.hid (la_pick (by first | with_reducible exact HT3.out | with_reducible exact la_alloc HT3.out _) hr4 hkk4); have RR4 := Lib.hid HT4.out.2.2.1; obtain ⟨u, hu, hus⟩ := lit_str 1 [⟨#[]⟩, ⟨#[120]⟩] (by decide) k4 hk4; simp only [List.map] at hu; have hk4' : (k4 : Int) < 2 := (by simp at hk4; omega); have q2 : ¬ 9223372036854775807 < s.size + u.size := (by omega); clear hkk4 hr4 hk4))
  all_goals
    go_wp2_with fail
    go_ret3
    exact la_end (by first | exact HT7.out | exact la_alloc HT7.out _) hln (by rw [append_size]; omega)

end Go.Proofs.Ytmbjioboepbjnaa
