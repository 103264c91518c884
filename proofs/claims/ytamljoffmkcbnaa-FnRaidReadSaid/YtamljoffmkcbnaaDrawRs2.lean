/- The disks of a pool drawn: how the drawing ends. -/
import Derived.Test.YtamljoffmkcbnaaDrawRs
import Derived.Test.YtamljoffmkcbnaaDrawDk
namespace Go.Proofs.Ytamljoffmkcbnaa
open Go.RowKit Go.Sort
set_option maxRecDepth 100000
set_option linter.unusedVariables false
set_option linter.unusedSimpArgs false

/-- Disks that were drawn, all of them younger than the draw's beginning. -/
def RdR (base : Nat) (w : World) (A : Option Addr) (c : Nat) (xs : List DA) (ds : List Dk) : Prop := RRd w A c xs ds ∧ From base A ∧ ∀ x ∈ xs, From base x.C ∧ From base x.W
theorem RdR.kp {base : Nat} {w w' : World} {A : Option Addr} {c : Nat} {xs : List DA} {ds : List Dk} {ex : List Nat} (h : RdR base w A c xs ds) (hK : Kp ex w w') (he : ∀ k ∈ ex, k < base) : RdR base w' A c xs ds :=
  ⟨{ h.1 with
    rows := h.1.rows.kp hK (fun _ a ha hm => by have := h.2.1 a ha; have := he _ hm; omega)
    each := fun i x hi => by
      obtain ⟨d, h1, h2⟩ := h.1.each i x hi
      obtain ⟨g1, g2⟩ := h.2.2 x (List.mem_of_getElem? hi)
      exact ⟨d, h1, h2.kp hK (fun a ha hm => by have := g1 a ha; have := he _ hm; omega) (fun a ha hm => by have := g2 a ha; have := he _ hm; omega)⟩ }, h.2⟩
/-- Disks and pointers drawn. -/
def RdD (K : Nat) (w : World) (rb p : Nat) (e : Ending) (w' : World) : Prop := ∃ (A : Option Addr) (c : Nat) (xs : List DA) (ds : List Dk) (LA : Option Addr) (lc : Nat) (l : List Pt) (k : Nat), e = .returned (.tuple #[.agg #[.slice A xs.length c], .slice LA l.length lc]) ∧ RdR w.heap.size w' A c xs ds ∧ xs.length ≤ 3 ∧ (RdT encP 5 w' LA l ∧ From w.heap.size LA) ∧ l.length ≤ lc ∧ lc ≤ 9223372036854775807 ∧ l.length ≤ 10 ∧ Rs w' rb (p + k) ∧ k ≤ K ∧ Kp [rb] w w'
theorem DI.from {base m : Nat} {w : World} {x : DA} (h : DI base m w x) : From base x.C ∧ From base x.W := by
  obtain ⟨c, hC, hb, _⟩ := h.c
  exact ⟨fun a ha => by rw [hC] at ha; cases ha; exact hb, fun a ha => (h.tg a ha).1⟩
theorem from_some {base b j : Nat} (h : base ≤ b) : From base (some ⟨b, j, none⟩) := fun a ha => by cases ha; exact h

section
variable {w W : World} {rb xb q m D cap lg lc p k : Nat} {xs : List DA} {l : List Pt}
theorem RRd.one {w w' : World} {A : Option Addr} {cap : Nat} {xs : List DA} {ds : List Dk} {b : Nat} (h : RRd w A cap xs ds) (hK : Kp [b] w w') (hA : ∀ a, A = some a → a.block ≠ b) (hx : ∀ x ∈ xs, (∀ a, x.C = some a → a.block ≠ b) ∧ (∀ a, x.W = some a → a.block ≠ b)) : RRd w' A cap xs ds :=
  { h with
    rows := h.rows.kp hK (fun _ a ha hm => by simp at hm; exact hA a ha hm)
    each := fun i x hi => by
      obtain ⟨d, h1, h2⟩ := h.each i x hi
      obtain ⟨g1, g2⟩ := hx x (List.mem_of_getElem? hi)
      exact ⟨d, h1, h2.kp hK (fun a ha hm => by simp at hm; exact g1 a ha hm) (fun a ha hm => by simp at hm; exact g2 a ha hm)⟩ }
theorem DI.ne {base m b : Nat} {w : World} {x : DA} {T : TypeId} (h : DI base m w x) (ht : Tag w b T) (h1 : T ≠ 9) (h2 : T ≠ 75) : (∀ a, x.C = some a → a.block ≠ b) ∧ (∀ a, x.W = some a → a.block ≠ b) := by
  refine ⟨fun a ha e => ?_, fun a ha e => ?_⟩
  · obtain ⟨c, hC, _, hst⟩ := h.c
    rw [hC] at ha
    cases ha
    dsimp only at e
    subst e
    exact h1 (ht.one hst.tag)
  · have := (h.tg a ha).2
    rw [e] at this
    exact h2 (ht.one this)
theorem RRd.drop1 {w : World} {b : Nat} {cap : Nat} {xs : List DA} {ds : List Dk} (h : RRd w (some ⟨b, 0, none⟩) cap xs ds) (hl : 1 ≤ xs.length) : RRd w (some ⟨b, 3, none⟩) (cap - 1) (xs.drop 1) (ds.drop 1) := by
  have hr := h.rows.drop 1 rfl
  simp only [Nat.one_mul, Nat.zero_add] at hr
  exact ⟨hr, by simp [h.len], by have := h.hc; simp; omega, by have := h.mc; omega, fun i x hi => by
    rw [List.getElem?_drop] at hi ⊢
    exact h.each _ x hi⟩

theorem rd_list (h : RS w rb xb q m D cap xs (.slice (some ⟨lg, 0, none⟩) l.length lc) l W) {W' : World} {b : Nat} {T : TypeId} (ht : Tag W b T) (hT : T ≠ 29) (hK : Kp [b] W W') : RdT encP 5 W' (some ⟨lg, 0, none⟩) l ∧ l.length ≤ lc ∧ lc ≤ 9223372036854775807 := by
  have ho := h.own.kpT hK (fun k hk ht' => by simp at hk; subst hk; exact hT (ht.one ht'))
  obtain ⟨A, c, e, h1, h2, _, hr⟩ := ho.form
  injection e with e1 e2 e3
  subst e1
  subst e3
  exact ⟨hr, h1, h2⟩
theorem rd_end (h : RS w rb xb q m D cap xs (.slice (some ⟨lg, 0, none⟩) l.length lc) l W) (hq : q = p + k) (hk : k ≤ 4000) (hl : l.length ≤ 10) :
    RdD 4000 w rb p (.returned (.tuple #[.agg #[.slice (some ⟨D, 0, none⟩) 3 cap], .slice (some ⟨lg, 0, none⟩) l.length lc])) (W.setCell ⟨w.heap.size, 0, none⟩ (.slice (some ⟨D, 0, none⟩) 3 cap)) := by
  obtain ⟨ds, hr⟩ := h.ri.rrd
  have K : Kp [w.heap.size] W (W.setCell ⟨w.heap.size, 0, none⟩ (.slice (some ⟨D, 0, none⟩) 3 cap)) := (Kp.refl _ _).setCell (.inl (by simp)) _
  have ht := Tag.box h.res
  obtain ⟨n1, n2, n3⟩ := h.neX
  have hrl := h.rl
  obtain ⟨g1, g2, g3⟩ := rd_list h ht (by decide) K
  subst hq
  exact ⟨some ⟨D, 0, none⟩, cap, xs, ds, some ⟨lg, 0, none⟩, lc, l, k, by rw [h.ri.len], ⟨hr.one K (fun a ha => by cases ha; exact fun e => n2 e.symm) (fun x hx => (h.ri.each x hx).ne ht (by decide) (by decide)), from_some h.ri.ge, fun x hx => (h.ri.each x hx).from⟩, by rw [h.ri.len]; omega, ⟨g1, from_some (own_baseD h.own lg rfl)⟩, g2, g3, hl, h.rs.kp K (by simp; omega), hk, h.kp.trans' K (fun i hi => by simp at hi; right; omega)⟩
theorem rd_end0 (h : RS w rb xb q m D cap xs (.slice (some ⟨lg, 0, none⟩) l.length lc) l W) (hq : q = p + k) (hk : k ≤ 4000) (hl : l.length ≤ 10) :
    RdD 4000 w rb p (.returned (.tuple #[.agg #[.slice (some ⟨D, 3, none⟩) 2 (cap - 1)], .slice (some ⟨lg, 0, none⟩) l.length lc])) ((W.setCell ⟨xb, 0, none⟩ (.slice (some ⟨D, 3, none⟩) 2 (cap - 1))).setCell ⟨w.heap.size, 0, none⟩ (.slice (some ⟨D, 3, none⟩) 2 (cap - 1))) := by
  obtain ⟨ds, hr⟩ := h.ri.rrd
  obtain ⟨n1, n2, n3⟩ := h.neX
  have hrl := h.rl
  have hgB := h.gB
  have K1 : Kp [xb] W (W.setCell ⟨xb, 0, none⟩ (.slice (some ⟨D, 3, none⟩) 2 (cap - 1))) := (Kp.refl _ _).setCell (.inl (by simp)) _
  have hres := h.res.kp K1 (by simpa using n3)
  have K2 : Kp [w.heap.size] (W.setCell ⟨xb, 0, none⟩ (.slice (some ⟨D, 3, none⟩) 2 (cap - 1))) ((W.setCell ⟨xb, 0, none⟩ (.slice (some ⟨D, 3, none⟩) 2 (cap - 1))).setCell ⟨w.heap.size, 0, none⟩ (.slice (some ⟨D, 3, none⟩) 2 (cap - 1))) := (Kp.refl _ _).setCell (.inl (by simp)) _
  have hr1 := hr.one K1 (fun a ha => by cases ha; exact fun e => n1 e.symm) (fun x hx => (h.ri.each x hx).ne (Tag.box h.box) (by decide) (by decide))
  have hr2 := hr1.one K2 (fun a ha => by cases ha; exact fun e => n2 e.symm) (fun x hx => (h.ri.each x hx).ne (Tag.box h.res) (by decide) (by decide))
  have K12 : Kp [xb, w.heap.size] W ((W.setCell ⟨xb, 0, none⟩ (.slice (some ⟨D, 3, none⟩) 2 (cap - 1))).setCell ⟨w.heap.size, 0, none⟩ (.slice (some ⟨D, 3, none⟩) 2 (cap - 1))) := ((Kp.refl _ _).setCell (.inl (by simp)) _).setCell (.inl (by simp)) _
  have ho := h.own.kpT K12 (fun k hk ht' => by
    simp at hk
    rcases hk with rfl | rfl
    · exact absurd ((Tag.box h.box).one ht') (by decide)
    · exact absurd ((Tag.box h.res).one ht') (by decide))
  obtain ⟨A, c, e, g2, g3, _, g1⟩ := ho.form
  injection e with e1 e2 e3
  subst e1
  subst e3
  subst hq
  have hlen : (xs.drop 1).length = 2 := by simp [h.ri.len]
  refine ⟨some ⟨D, 3, none⟩, cap - 1, xs.drop 1, ds.drop 1, some ⟨lg, 0, none⟩, lc, l, k, by rw [hlen], ⟨hr2.drop1 (by rw [h.ri.len]; omega), from_some h.ri.ge, fun x hx => (h.ri.each x (List.mem_of_mem_drop hx)).from⟩, by rw [hlen]; omega, ⟨g1, from_some (own_baseD h.own lg rfl)⟩, g2, g3, hl, h.rs.kp K12 (by simp; omega), hk, h.kp.trans' K12 (fun i hi => by simp at hi; right; omega)⟩
theorem rd_end1 (h : RS w rb xb q m D cap xs (.slice (some ⟨lg, 0, none⟩) l.length lc) l W) (hq : q = p + k) (hk : k ≤ 4000) (hl : l.length ≤ 10) {y : DA} {d : Dk} {B : Nat} (hy : DRd W y d) (hC : From B y.C) (hW : From B y.W) (hDB : D < B) (hxB : w.heap.size < B) :
    RdD 4000 w rb p (.returned (.tuple #[.agg #[.slice (some ⟨D, 0, none⟩) 3 cap], .slice (some ⟨lg, 0, none⟩) l.length lc])) ((((W.setCell ⟨D, 3, none⟩ (.slice y.C y.nC y.cC)).setCell ⟨D, 4, none⟩ (.slice y.W y.nW y.cW)).setCell ⟨D, 5, none⟩ (.bool y.g)).setCell ⟨w.heap.size, 0, none⟩ (.slice (some ⟨D, 0, none⟩) 3 cap)) := by
  obtain ⟨ds, hr⟩ := h.ri.rrd
  obtain ⟨n1, n2, n3⟩ := h.neX
  have hrl := h.rl
  have hge := h.ri.ge
  have K1 : Kp [D] W (((W.setCell ⟨D, 3, none⟩ (.slice y.C y.nC y.cC)).setCell ⟨D, 4, none⟩ (.slice y.W y.nW y.cW)).setCell ⟨D, 5, none⟩ (.bool y.g)) := kp_setD
  have hrow := (World.ownsRow.stored (World.ownsRow.stored (World.ownsRow.stored h.ri.row3 3 (.slice y.C y.nC y.cC)).1 4 (.slice y.W y.nW y.cW)).1 5 (.bool y.g)).1
  have e := cellsOf_set3 (enc := encD) xs 1 y (by rw [h.ri.len]; omega)
  have hrow2 : Own encD 3 51 w.heap.size (((W.setCell ⟨D, 3, none⟩ (.slice y.C y.nC y.cC)).setCell ⟨D, 4, none⟩ (.slice y.W y.nW y.cW)).setCell ⟨D, 5, none⟩ (.bool y.g)) (.slice (some ⟨D, 0, none⟩) 3 cap) (xs.set 1 y) := by
    unfold Own
    rw [List.length_set, ← e, h.ri.len]
    exact hrow
  obtain ⟨A, c, e1, f2, f3, _, f1⟩ := hrow2.form
  injection e1 with e1 e2 e3
  subst e1
  subst e3
  have hr1 : RRd (((W.setCell ⟨D, 3, none⟩ (.slice y.C y.nC y.cC)).setCell ⟨D, 4, none⟩ (.slice y.W y.nW y.cW)).setCell ⟨D, 5, none⟩ (.bool y.g)) (some ⟨D, 0, none⟩) cap (xs.set 1 y) (ds.set 1 d) := by
    refine ⟨f1, by rw [List.length_set, List.length_set]; exact hr.len, f2, f3, fun i x hi => ?_⟩
    by_cases h1 : i = 1
    · subst h1
      rw [List.getElem?_set_self (by rw [h.ri.len]; omega)] at hi
      cases hi
      exact ⟨d, by rw [List.getElem?_set_self (by rw [hr.len, h.ri.len]; omega)], hy.kp K1 (fun a ha hm => by have := hC a ha; simp at hm; omega) (fun a ha hm => by have := hW a ha; simp at hm; omega)⟩
    · rw [List.getElem?_set_ne (by omega)] at hi
      obtain ⟨d', g1, g2⟩ := hr.each i x hi
      obtain ⟨t1, t2⟩ := (h.ri.each x (List.mem_of_getElem? hi)).ne h.ri.tag (by decide) (by decide)
      exact ⟨d', by rw [List.getElem?_set_ne (by omega)]; exact g1, g2.kp K1 (fun a ha hm => by simp at hm; exact t1 a ha hm) (fun a ha hm => by simp at hm; exact t2 a ha hm)⟩
  have hres : BoxAt (((W.setCell ⟨D, 3, none⟩ (.slice y.C y.nC y.cC)).setCell ⟨D, 4, none⟩ (.slice y.W y.nW y.cW)).setCell ⟨D, 5, none⟩ (.bool y.g)) w.heap.size #[.slice none 0 0] 25 := h.res.kp K1 (by simpa using n2)
  have K2 : Kp [w.heap.size] (((W.setCell ⟨D, 3, none⟩ (.slice y.C y.nC y.cC)).setCell ⟨D, 4, none⟩ (.slice y.W y.nW y.cW)).setCell ⟨D, 5, none⟩ (.bool y.g)) ((((W.setCell ⟨D, 3, none⟩ (.slice y.C y.nC y.cC)).setCell ⟨D, 4, none⟩ (.slice y.W y.nW y.cW)).setCell ⟨D, 5, none⟩ (.bool y.g)).setCell ⟨w.heap.size, 0, none⟩ (.slice (some ⟨D, 0, none⟩) 3 cap)) := (Kp.refl _ _).setCell (.inl (by simp)) _
  have hr2 := hr1.one K2 (fun a ha => by cases ha; exact fun e => n2 e.symm) (fun x hx => by
    rcases List.mem_or_eq_of_mem_set hx with hx | hx
    · exact (h.ri.each x hx).ne (Tag.box h.res) (by decide) (by decide)
    · subst hx
      exact ⟨fun a ha e => by have := hC a ha; omega, fun a ha e => by have := hW a ha; omega⟩)
  have K12 : Kp [D, w.heap.size] W ((((W.setCell ⟨D, 3, none⟩ (.slice y.C y.nC y.cC)).setCell ⟨D, 4, none⟩ (.slice y.W y.nW y.cW)).setCell ⟨D, 5, none⟩ (.bool y.g)).setCell ⟨w.heap.size, 0, none⟩ (.slice (some ⟨D, 0, none⟩) 3 cap)) := ((((Kp.refl _ _).setCell (.inl (by simp)) _).setCell (.inl (by simp)) _).setCell (.inl (by simp)) _).setCell (.inl (by simp)) _
  have ho := h.own.kpT K12 (fun k hk ht' => by
    simp at hk
    rcases hk with rfl | rfl
    · exact absurd (h.ri.tag.one ht') (by decide)
    · exact absurd ((Tag.box h.res).one ht') (by decide))
  obtain ⟨A, c', e, g2, g3, _, g1⟩ := ho.form
  injection e with e1 e2 e3
  subst e1
  subst e3
  subst hq
  have hlen : (xs.set 1 y).length = 3 := by rw [List.length_set]; exact h.ri.len
  exact ⟨some ⟨D, 0, none⟩, cap, xs.set 1 y, ds.set 1 d, some ⟨lg, 0, none⟩, lc, l, k, by rw [hlen], ⟨hr2, from_some h.ri.ge, fun x hx => by
    rcases List.mem_or_eq_of_mem_set hx with hx | hx
    · exact (h.ri.each x hx).from
    · subst hx; exact ⟨fun a ha => by have := hC a ha; omega, fun a ha => by have := hW a ha; omega⟩⟩, by rw [hlen]; omega, ⟨g1, from_some (own_baseD h.own lg rfl)⟩, g2, g3, hl, h.rs.kp K12 (by simp; omega), hk, h.kp.trans' K12 (fun i hi => by simp at hi; right; omega)⟩
end

end Go.Proofs.Ytamljoffmkcbnaa
