/- The disks of a pool drawn: what is kept of their memory while they are made. -/
import Derived.Test.YtamljoffmkcbnaaDrawPut2
import Derived.Test.YtamljoffmkcbnaaDrawPtr2
namespace Go.Proofs.Ytamljoffmkcbnaa
open Go.RowKit Go.Sort
set_option maxRecDepth 100000
set_option linter.unusedVariables false
set_option linter.unusedSimpArgs false

theorem Own.ssT {α : Type} {enc : α → Nat → Value} {sz base b0 : Nat} {T : TypeId} {w w' : World} {v : Value} {xs : List α} {ex : List Nat} (h : Own enc sz T base w v xs) (hs : SS b0 ex w w') (hT : T ≠ 9) (he : ∀ k ∈ ex, ¬ Tag w k T) : Own enc sz T base w' v xs :=
  h.keep (fun k _ _ hv => by
    rcases h.2 with ⟨rfl, _⟩ | ⟨g, cap, cur, rfl, _, hh, _⟩
    · simp [Value.ownBlock] at hv
    · simp [Value.ownBlock] at hv
      subst hv
      have ht : Tag w g T := ⟨cur, hh⟩
      exact hs.oth g T ht hT (fun hm => he g hm ht))
theorem Own.kpT {α : Type} {enc : α → Nat → Value} {sz base : Nat} {T : TypeId} {w w' : World} {v : Value} {xs : List α} {ex : List Nat} (h : Own enc sz T base w v xs) (hK : Kp ex w w') (he : ∀ k ∈ ex, ¬ Tag w k T) : Own enc sz T base w' v xs :=
  h.kp hK (fun k hk e => by
    rcases h.2 with ⟨rfl, _⟩ | ⟨g, cap, cur, rfl, _, hh, _⟩
    · simp [Value.ownBlock] at e
    · simp [Value.ownBlock] at e
      subst e
      exact he g hk ⟨cur, hh⟩)

/-- The disks that are made, in their variable, and the pointers drawn so far. -/
structure RS (w0 : World) (rb xb q m D cap : Nat) (xs : List DA) (v : Value) (l : List Pt) (W : World) : Prop where
  box : BoxAt W xb #[.slice (some ⟨D, 0, none⟩) 3 cap] 25
  res : BoxAt W w0.heap.size #[.slice none 0 0] 25
  ri : RI w0.heap.size m W D cap xs
  own : Own encP 5 29 w0.heap.size W v l
  lz : ∀ p ∈ l, inB p.at_ 0 63 = true
  rs : Rs W rb q
  kp : Kp [rb] w0 W
  gB : w0.heap.size < xb
  rl : rb < w0.heap.size
section
variable {w0 W W' : World} {rb xb q q' m D cap : Nat} {xs : List DA} {v : Value} {l : List Pt}
theorem RS.step {ex : List Nat} (h : RS w0 rb xb q m D cap xs v l W) (hr : Rs W' rb q') (hk : Kp ex W W') (he : ∀ k ∈ ex, k = rb ∨ W.heap.size ≤ k) : RS w0 rb xb q' m D cap xs v l W' := by
  have hs0 : w0.heap.size < W.heap.size := h.res.lt
  have hrl := h.rl
  have hn : ∀ b, w0.heap.size ≤ b → b < W.heap.size → b ∉ ex := fun b h1 h2 hm => by
    rcases he b hm with e | e <;> omega
  have hks : KS W W' := ⟨hk.size, fun b T ht hT => hk.block b ht.lt (fun hm => by
    rcases he b hm with e | e
    · subst e
      obtain ⟨A, c, zs, g1, _⟩ := h.rs
      obtain ⟨cs, g2⟩ := ht
      rw [g1] at g2
      cases g2
      rcases hT with hT | hT <;> exact absurd hT (by decide)
    · have := ht.lt; omega)⟩
  refine ⟨h.box.kp hk (hn xb (Nat.le_of_lt h.gB) h.box.lt), h.res.kp hk (hn _ (Nat.le_refl _) h.res.lt), ⟨own_one h.ri.row hk (hn D h.ri.ge h.ri.lt), h.ri.len, fun x hx => (h.ri.each x hx).ks hks⟩, h.own.kp hk (fun k hkm e => ?_), h.lz, hr, ?_, h.gB, h.rl⟩
  · have hb := own_baseD h.own k e
    rcases he k hkm with e' | e'
    · omega
    · rcases h.own.2 with ⟨rfl, _⟩ | ⟨g, cap, cur, rfl, _, hh, _⟩
      · simp [Value.ownBlock] at e
      · simp [Value.ownBlock] at e
        subst e
        have := (show Tag W g 29 from ⟨cur, hh⟩).lt
        omega
  · exact h.kp.trans' hk (fun i hi => by
      rcases he i hi with e | e
      · left; simp [e]
      · right; omega)
theorem RS.pick (h : RS w0 rb xb q m D cap xs v l W) (hr : Rs W' rb q') (hk : Kp [rb] W W') : RS w0 rb xb q' m D cap xs v l W' := h.step hr hk (fun k hk => .inl (by simpa using hk))
theorem RS.below (h : RS w0 rb xb q m D cap xs v l W) (hB : Below W.heap.size W W') : RS w0 rb xb q m D cap xs v l W' := h.step (h.rs.below hB) (Kp.of_below hB) (fun _ hm => by cases hm)
theorem RS.drew (h : RS w0 rb xb q m D cap xs v l W) : RS w0 rb xb q m D cap xs v l W.drew := h.below (Below.drew (Below.refl _ _))
theorem RS.alloc (h : RS w0 rb xb q m D cap xs v l W) (o : Obj) : RS w0 rb xb q m D cap xs v l (W.alloc o) := h.below (below_alloc (Below.refl _ _) o)
theorem RS.hb (h : RS w0 rb xb q m D cap xs v l W) : w0.heap.size ≤ W.heap.size := h.kp.size
theorem RS.neX (h : RS w0 rb xb q m D cap xs v l W) : xb ≠ D ∧ w0.heap.size ≠ D ∧ w0.heap.size ≠ xb := by
  refine ⟨fun e => absurd ((Tag.box h.box).one (e ▸ h.ri.tag)) (by decide), fun e => absurd ((Tag.box h.res).one (e ▸ h.ri.tag)) (by decide), by have := h.gB; omega⟩
theorem RS.noPtr (h : RS w0 rb xb q m D cap xs v l W) : ∀ k ∈ [D], ¬ Tag W k 29 := fun k hk ht => by
  simp at hk
  subst hk
  exact absurd (h.ri.tag.one ht) (by decide)
/-- The disks' rows written on. -/
theorem RS.ss (h : RS w0 rb xb q m D cap xs v l W) {m' : Nat} {ys : List DA} (hr : RI w0.heap.size m' W' D cap ys) (hs : SS w0.heap.size [D] W W') : RS w0 rb xb q m' D cap ys v l W' := by
  obtain ⟨n1, n2, n3⟩ := h.neX
  have hrl := h.rl
  exact ⟨box_ss h.box hs (by decide) (by simpa using n1), box_ss h.res hs (by decide) (by simpa using n2), hr, h.own.ssT hs (by decide) h.noPtr, h.lz, Rs.keep h.rs hs.bel.size (fun k hk => hs.bel.block k (by omega)), ⟨hs.bel.os.trans h.kp.os, hs.bel.tape.trans h.kp.tape, hs.bel.output.trans h.kp.output, Nat.le_trans h.kp.size hs.bel.size, fun k hk he => (hs.bel.block k hk).trans (h.kp.block k hk he)⟩, h.gB, h.rl⟩
theorem RS.put (h : RS w0 rb xb q m D cap xs v l W) {m' : Nat} {ys : List DA} (hr : RI w0.heap.size m' W' D cap ys) (hK : Kp [D] W W') : RS w0 rb xb q m' D cap ys v l W' := by
  obtain ⟨n1, n2, n3⟩ := h.neX
  have hrl := h.rl
  have hg := h.ri.ge
  exact ⟨h.box.kp hK (by simpa using n1), h.res.kp hK (by simpa using n2), hr, h.own.kpT hK h.noPtr, h.lz, h.rs.kp hK (by simp; omega), h.kp.trans' hK (fun i hi => by simp at hi; right; omega), h.gB, h.rl⟩
/-- The variable set to what it was. -/
theorem RS.setX (h : RS w0 rb xb q m D cap xs v l W) : RS w0 rb xb q m D cap xs v l (W.setCell ⟨xb, 0, none⟩ (.slice (some ⟨D, 0, none⟩) 3 cap)) := by
  obtain ⟨n1, n2, n3⟩ := h.neX
  have hrl := h.rl
  have hgB := h.gB
  have K : Kp [xb] W (W.setCell ⟨xb, 0, none⟩ (.slice (some ⟨D, 0, none⟩) 3 cap)) := (Kp.refl _ _).setCell (.inl (by simp)) _
  exact ⟨box_putB h.box 0 _, h.res.kp K (by simpa using n3), ⟨own_one h.ri.row K (by simpa using fun e => n1 e.symm), h.ri.len, fun x hx => (h.ri.each x hx).ks (KS.setX (Tag.box h.box) (by decide) (by decide))⟩, h.own.kpT K (fun k hk ht => by simp at hk; subst hk; exact absurd ((Tag.box h.box).one ht) (by decide)), h.lz, h.rs.kp K (by simp; omega), h.kp.trans' K (fun i hi => by simp at hi; right; omega), h.gB, h.rl⟩
/-- A pointer appended. -/
theorem RS.app (h : RS w0 rb xb q m D cap xs v l W) {p : Pt} {v' : Value} (hp : inB p.at_ 0 63 = true) (ho : Own encP 5 29 w0.heap.size W' v' (l ++ [p])) (hg : W.grownBy W' v.ownBlock) : RS w0 rb xb q m D cap xs v' (l ++ [p]) W' := by
  have hB : Below w0.heap.size W W' := (Below.refl _ W).grown hg h.hb (own_baseD h.own)
  have hsz := hB.size
  have hrl := h.rl
  exact ⟨h.box.grownT h.own hg (by decide), h.res.grownT h.own hg (by decide), ⟨h.ri.row.keep (fun k _ _ e => hg.block k (by simp [Value.ownBlock] at e; subst e; exact h.ri.lt) (fun e2 => by
      simp [Value.ownBlock] at e
      subst e
      rcases h.own.2 with ⟨rfl, _⟩ | ⟨g, c', cur, rfl, _, hh, _⟩
      · simp [Value.ownBlock] at e2
      · simp [Value.ownBlock] at e2
        subst e2
        exact absurd (h.ri.tag.one (show Tag W D 29 from ⟨cur, hh⟩)) (by decide))), h.ri.len, fun x hx => (h.ri.each x hx).ks (KS.grown h.own hg hsz (by decide) (by decide))⟩, ho, fun z hz => by
      rcases List.mem_append.1 hz with hz | hz
      · exact h.lz z hz
      · simp at hz; rw [hz]; exact hp, Rs.keep h.rs hsz (fun k hk => hB.block k (by omega)), ⟨hB.os.trans h.kp.os, hB.tape.trans h.kp.tape, hB.output.trans h.kp.output, Nat.le_trans h.kp.size hsz, fun k hk he => (hB.block k hk).trans (h.kp.block k hk he)⟩, h.gB, h.rl⟩
end

theorem ptr_ne {w : World} {b D : Nat} {cs : Array Value} (h : BoxAt w b cs 29) (hD : Tag w D 51) : ¬ b = D := fun e => absurd ((Tag.box h).one (e ▸ hD)) (by decide)
/-- Some pointer, at the row asked or at none. -/
def SomePA (a : Int) (w : World) (e : Ending) (w' : World) : Prop := ∃ (p : Pt) (b : Bool), e = .returned (.tuple #[p.v, .bool b]) ∧ (p.at_ = a ∨ p.at_ = 0) ∧ Below w.heap.size w w'
set_option maxHeartbeats 2000000 in
theorem specPtrOfA_any (w : World) (a b l : Int) (s : ByteArray) (hs : s.size ≤ 9223372036854775807) : Calls Try.prog 64 #[.int .i64 a, .int .i64 b, .int .i64 l, .string s] w (SomePA a w) := by
  have HS := Lib.hid (fun w => specSumOf_any s w hs)
  generalize sumL s.data.toList = r at *
  have HP := Lib.hid (specPtrOk_any ⟨a, b, s.size, r, l⟩)
  generalize ptrB ⟨a, b, s.size, r, l⟩ = pb at *
  unfold Pt.v at HP
  dsimp only at HP
  go_enter Try.func64, Try.ntmps64
  go_wp2_with fail
  refine Calls.mono (l2Block_any s _ hs) ?_
  rintro e w2 ⟨rfl, rfl⟩
  cases hb : inB (s.size : Int) 1 128
  · go_wp2_with fail
    refine bodyPost_ret (v := .tuple #[.agg #[.int .i64 0, .int .i64 0, .int .i64 0, .int .i64 0, .int .i64 0], .bool false]) (by simp [results, Try.results64, go_sem]) rfl ⟨⟨0, 0, 0, 0, 0⟩, false, rfl, .inr rfl, by (repeat (first | assumption | exact Below.refl _ _ | refine below_alloc ?_ _ | refine Below.drew ?_ | refine below_drewN ?_ _ | refine below_set ?_ (by first | exact Nat.le_refl _ | omega | (simp; done) | (simp; omega)) _ | refine below_kp ?_ (by assumption) (by simp) | refine below_below ?_ (by assumption)))⟩
  · go_wp2_with fail
    refine Calls.mono (HS.out _) ?_
    rintro e w3 ⟨rfl, rfl⟩
    go_wp2_with fail
    refine Calls.mono (HP.out _) ?_
    rintro e w4 ⟨rfl, hB⟩
    have HB4 := Lib.hid (below_below (below_alloc (below_alloc (Below.refl w.heap.size w) (.cells #[.int .i64 0, .int .i64 0, .int .i64 0, .int .i64 0, .int .i64 0] 29)) (.cells #[.int .i64 a, .int .i64 b, .int .i64 (s.size : Int), .int .i64 r, .int .i64 l] 29)) hB)
    have RC := Lib.hid (((box_new w #[.int .i64 0, .int .i64 0, .int .i64 0, .int .i64 0, .int .i64 0] 29).alloc (.cells #[.int .i64 a, .int .i64 b, .int .i64 (s.size : Int), .int .i64 r, .int .i64 l] 29)).below hB)
    have PX := box_new (w.alloc (.cells #[.int .i64 0, .int .i64 0, .int .i64 0, .int .i64 0, .int .i64 0] 29)) #[.int .i64 a, .int .i64 b, .int .i64 (s.size : Int), .int .i64 r, .int .i64 l] 29
    rw [World.size_alloc] at PX
    have PX4 := Lib.hid (PX.below hB)
    have rc := RC.out.cell
    have rf := RC.out.froz
    have rl := RC.out.lt
    have pc := PX4.out.cell
    have pcl := PX4.out.lt
    clear PX hB
    cases pb
    · go_wp2_with fail
      refine bodyPost_ret (v := .tuple #[.agg #[.int .i64 0, .int .i64 0, .int .i64 0, .int .i64 0, .int .i64 0], .bool false]) (by simp [results, Try.results64, go_sem, rc, rl]) rfl ⟨⟨0, 0, 0, 0, 0⟩, false, rfl, .inr rfl, ?_⟩
      exact (below_set (below_set (below_set (below_set (below_set HB4.out (p := ⟨w.heap.size, 0, none⟩) (Nat.le_refl _) (.int .i64 0)) (p := ⟨w.heap.size, 1, none⟩) (Nat.le_refl _) (.int .i64 0)) (p := ⟨w.heap.size, 2, none⟩) (Nat.le_refl _) (.int .i64 0)) (p := ⟨w.heap.size, 3, none⟩) (Nat.le_refl _) (.int .i64 0)) (p := ⟨w.heap.size, 4, none⟩) (Nat.le_refl _) (.int .i64 0))
    · go_wp2_with fail
      refine bodyPost_ret (v := .tuple #[.agg #[.int .i64 a, .int .i64 b, .int .i64 (s.size : Int), .int .i64 r, .int .i64 l], .bool true]) (by simp [results, Try.results64, go_sem, rc, rl]) rfl ⟨⟨a, b, s.size, r, l⟩, true, rfl, .inl rfl, ?_⟩
      exact (below_set (below_set (below_set (below_set (below_set HB4.out (p := ⟨w.heap.size, 0, none⟩) (Nat.le_refl _) (.int .i64 a)) (p := ⟨w.heap.size, 1, none⟩) (Nat.le_refl _) (.int .i64 b)) (p := ⟨w.heap.size, 2, none⟩) (Nat.le_refl _) (.int .i64 (s.size : Int))) (p := ⟨w.heap.size, 3, none⟩) (Nat.le_refl _) (.int .i64 r)) (p := ⟨w.heap.size, 4, none⟩) (Nat.le_refl _) (.int .i64 l))

end Go.Proofs.Ytamljoffmkcbnaa
