/- A disk drawn: what is kept of its memory while it is made. -/
import Derived.Test.YtamljoffmkcbnaaDrawPut2
import Derived.Test.YtamljoffmkcbnaaMany
namespace Go.Proofs.Ytamljoffmkcbnaa
open Go.RowKit Go.Sort
set_option maxRecDepth 100000
set_option linter.unusedVariables false
set_option linter.unusedSimpArgs false

/-- A new disk whose rows are the call's own. -/
def DNO (w : World) (e : Ending) (w' : World) : Prop := ∃ (cb g : Nat), e = .returned (.agg #[.slice (some ⟨cb, 0, none⟩) 64 64, .slice (some ⟨g, 0, none⟩) 0 0, .bool false]) ∧ TStr w' cb ∧ w.heap.size ≤ cb ∧ Own encW 2 75 w.heap.size w' (.slice (some ⟨g, 0, none⟩) 0 0) ([] : List Wt) ∧ Below w.heap.size w w'
set_option maxHeartbeats 1000000 in
theorem specDiskNewO_any (w : World) : Calls Try.prog 21 #[] w (DNO w) := by
  obtain ⟨i0, hi, hz0, hz1, hz2⟩ := info_parts info_string
  go_enter Try.func21, Try.ntmps21
  go_wp2_with (at_make; refine wpList_make_full _ rfl _ _ 48 rfl (w.heap.size + 1) 9 i0 _ 1 Try.underlying48 hi hz0 hz1 .i64 .i64 _ _ 64 rfl rfl rfl rfl (by rw [hz2]; omega) (by unfold maxLen; omega) (by simp) ?_; intro w1 hown hgrow; have B1 := (Below.refl _ _).grown hgrow (Nat.le_refl _) (fun k hk => by cases hk); have BX := (box_new w #[.slice none 0 0, .slice none 0 0, .bool false] 51).below B1; have bx := BX.cell; have bf := BX.froz; have bl := BX.lt; rw [madeS] at hown; simp only [World.size_alloc] at hown; have HO := Lib.hid hown; have HB := Lib.hid (below_below (below_alloc (Below.refl w.heap.size w) _) B1); clear hown hgrow B1 BX)
  refine bodyPost_ret (v := .agg #[.slice (some ⟨w.heap.size + 1, 0, none⟩) 64 64, .slice (some ⟨w1.heap.size, 0, none⟩) 0 0, .bool false]) (by simp [results, Try.results21, go_sem, bx, bl]) rfl ?_
  have K := (kp_set3 w.heap.size w1 (.slice (some ⟨w.heap.size + 1, 0, none⟩) 64 64) (.slice (some ⟨w1.heap.size, 0, none⟩) 0 0) (.bool false)).alloc (.cells #[] 75)
  have h1 : Own encS 1 9 w.heap.size w1 (.slice (some ⟨w.heap.size + 1, 0, none⟩) 64 64) (List.replicate 64 ⟨#[]⟩) := Own.more (base := w.heap.size + 1) (by unfold Own; rw [List.length_replicate]; exact HO.out) (by omega)
  have h2 := Own.empty (enc := encW) (sz := 2) (T := 75) (base := w.heap.size) (w := ((w1.setCell ⟨w.heap.size, 0, none⟩ (.slice (some ⟨w.heap.size + 1, 0, none⟩) 64 64)).setCell ⟨w.heap.size, 1, none⟩ (.slice (some ⟨w1.heap.size, 0, none⟩) 0 0)).setCell ⟨w.heap.size, 2, none⟩ (.bool false)) (by simp only [World.size_setCell]; omega)
  simp only [World.size_setCell] at h2
  refine ⟨w.heap.size + 1, w1.heap.size, rfl, ⟨_, (own_kp0 h1 K (by omega)).more (Nat.zero_le _), by simp, fun s hs => ?_⟩, by omega, h2, below_kp HB.out K (by simp)⟩
  rw [List.eq_of_mem_replicate hs]
  show (0 : Nat) ≤ _
  omega

/-- The disk that is made, in its variable. -/
structure LD (w0 : World) (rb B q n cb g c : Nat) (gn : Bool) (ws : List Wt) (W : World) : Prop where
  box : BoxAt W B #[.slice (some ⟨cb, 0, none⟩) 64 64, .slice (some ⟨g, 0, none⟩) n c, .bool gn] 51
  res : BoxAt W w0.heap.size #[.slice none 0 0, .slice none 0 0, .bool false] 51
  st : TStr W cb
  own : Own encW 2 75 w0.heap.size W (.slice (some ⟨g, 0, none⟩) n c) ws
  len : ws.length = n
  wz : ∀ y ∈ ws, y.text.size ≤ 1000
  rs : Rs W rb q
  kp : Kp [rb] w0 W
  gB : w0.heap.size < B
  gc : w0.heap.size ≤ cb
  rl : rb < w0.heap.size
section
variable {w0 W W' : World} {rb B q q' n cb g c : Nat} {gn : Bool} {ws : List Wt}
theorem LD.step {ex : List Nat} (h : LD w0 rb B q n cb g c gn ws W) (hr : Rs W' rb q') (hk : Kp ex W W') (he : ∀ k ∈ ex, k = rb ∨ W.heap.size ≤ k) : LD w0 rb B q' n cb g c gn ws W' := by
  have hn : ∀ b, w0.heap.size ≤ b → b < W.heap.size → b ∉ ex := fun b h1 h2 hm => by
    rcases he b hm with e | e
    · have := h.rl; omega
    · omega
  have hs0 : w0.heap.size < W.heap.size := h.res.lt
  refine ⟨h.box.kp hk (hn B (Nat.le_of_lt h.gB) h.box.lt), h.res.kp hk (hn _ (Nat.le_refl _) h.res.lt), h.st.keep (hk.block cb h.st.tag.lt (hn cb h.gc h.st.tag.lt)), own_one h.own hk (hn g (own_from h.own) (own_tag h.own).lt), h.len, h.wz, hr, ?_, h.gB, h.gc, h.rl⟩
  exact h.kp.trans' hk (fun i hi => by
    rcases he i hi with e | e
    · left; simp [e]
    · right; omega)
theorem LD.pick (h : LD w0 rb B q n cb g c gn ws W) (hr : Rs W' rb q') (hk : Kp [rb] W W') : LD w0 rb B q' n cb g c gn ws W' := h.step hr hk (fun k hk => .inl (by simpa using hk))
theorem LD.below (h : LD w0 rb B q n cb g c gn ws W) (hB : Below W.heap.size W W') : LD w0 rb B q n cb g c gn ws W' := h.step (h.rs.below hB) (Kp.of_below hB) (fun _ hm => by cases hm)
theorem LD.drew (h : LD w0 rb B q n cb g c gn ws W) : LD w0 rb B q n cb g c gn ws W.drew := h.below (Below.drew (Below.refl _ _))
theorem LD.alloc (h : LD w0 rb B q n cb g c gn ws W) (o : Obj) : LD w0 rb B q n cb g c gn ws (W.alloc o) := h.below (below_alloc (Below.refl _ _) o)
/-- A text stored. -/
theorem LD.setS (h : LD w0 rb B q n cb g c gn ws W) {j : Nat} (hj : j < 64) {s : ByteArray} (hs : s.size ≤ 1000) : LD w0 rb B q n cb g c gn ws (W.setCell ⟨cb, j, none⟩ (.string s)) := by
  have n1 : B ≠ cb := fun e => absurd ((Tag.box h.box).one (e ▸ h.st.tag)) (by decide)
  have n2 : w0.heap.size ≠ cb := fun e => absurd ((Tag.box h.res).one (e ▸ h.st.tag)) (by decide)
  have n3 : g ≠ cb := fun e => absurd ((own_tag h.own).one (e ▸ h.st.tag)) (by decide)
  have K : Kp [cb] W (W.setCell ⟨cb, j, none⟩ (.string s)) := (Kp.refl _ _).setCell (.inl (by simp)) _
  have hg := h.gc
  have hl := h.rl
  refine ⟨h.box.set (p := ⟨cb, j, none⟩) n1 _, h.res.set (p := ⟨cb, j, none⟩) n2 _, h.st.set cb j s hj hs, own_one h.own K (by simpa using n3), h.len, h.wz, h.rs.kp K (by simp; omega), h.kp.setCell (.inr h.gc) _, h.gB, h.gc, h.rl⟩
/-- A wait appended, and the variable set. -/
theorem LD.app (h : LD w0 rb B q n cb g c gn ws W) {y : Wt} {g' c' m : Nat} (hm : m = n + 1) (hy : y.text.size ≤ 1000) (ho : Own encW 2 75 w0.heap.size W' (.slice (some ⟨g', 0, none⟩) m c') (ws ++ [y])) (hg : W.grownBy W' (Value.ownBlock (.slice (some ⟨g, 0, none⟩) n c))) :
    LD w0 rb B q m cb g' c' gn (ws ++ [y]) (W'.setCell ⟨B, 1, none⟩ (.slice (some ⟨g', 0, none⟩) m c')) := by
  have hb2 := h.box.grownT h.own hg (by decide)
  have hr2 := h.res.grownT h.own hg (by decide)
  have hst2 : TStr W' cb := h.st.keep (hg.block cb h.st.tag.lt (fun e => by
    simp [Value.ownBlock] at e
    subst e
    exact absurd (h.st.tag.one (own_tag h.own)) (by decide)))
  have hB : Below w0.heap.size W W' := (Below.refl _ W).grown hg (by have := h.kp.size; exact this) (own_baseD h.own)
  have hsz := hB.size
  have n1 : w0.heap.size ≠ B := by have := h.gB; omega
  have n2 : cb ≠ B := fun e => absurd (hst2.tag.one (e ▸ Tag.box hb2)) (by decide)
  have n3 : g' ≠ B := own_ne ho hb2 (by decide)
  have K : Kp [B] W' (W'.setCell ⟨B, 1, none⟩ (.slice (some ⟨g', 0, none⟩) m c')) := (Kp.refl _ _).setCell (.inl (by simp)) _
  have hrl := h.rl
  have hgB := h.gB
  refine ⟨box_putB hb2 1 _, hr2.set (p := ⟨B, 1, none⟩) n1 _, hst2.keep (Below.heap_setCell _ _ _ _ n2), own_one ho K (by simpa using n3), by simp [h.len, hm], fun z hz => ?_, (Rs.keep h.rs hsz (fun k hk => hB.block k (by omega))).kp K (by simp; omega), ?_, h.gB, h.gc, h.rl⟩
  · rcases List.mem_append.1 hz with hz | hz
    · exact h.wz z hz
    · simp at hz; rw [hz]; exact hy
  · refine Kp.setCell ⟨hB.os.trans h.kp.os, hB.tape.trans h.kp.tape, hB.output.trans h.kp.output, Nat.le_trans h.kp.size hsz, fun k hk he => (hB.block k hk).trans (h.kp.block k hk he)⟩ (.inr (by dsimp only; omega)) _
/-- Whether it is gone, set. -/
theorem LD.setG (h : LD w0 rb B q n cb g c gn ws W) (b : Bool) : LD w0 rb B q n cb g c b ws (W.setCell ⟨B, 2, none⟩ (.bool b)) := by
  have n1 : w0.heap.size ≠ B := by have := h.gB; omega
  have n2 : cb ≠ B := fun e => absurd (h.st.tag.one (e ▸ Tag.box h.box)) (by decide)
  have n3 : g ≠ B := own_ne h.own h.box (by decide)
  have K : Kp [B] W (W.setCell ⟨B, 2, none⟩ (.bool b)) := (Kp.refl _ _).setCell (.inl (by simp)) _
  have hrl := h.rl
  have hgB := h.gB
  exact ⟨box_putB h.box 2 _, h.res.set (p := ⟨B, 2, none⟩) n1 _, h.st.keep (Below.heap_setCell _ _ _ _ n2), own_one h.own K (by simpa using n3), h.len, h.wz, h.rs.kp K (by simp; omega), h.kp.setCell (.inr (by dsimp only; omega)) _, h.gB, h.gc, h.rl⟩
theorem LD.bd (h : LD w0 rb B q n cb g c gn ws W) : n ≤ c ∧ c ≤ 9223372036854775807 := by
  obtain ⟨A, c', e, h1, h2, _⟩ := h.own.form
  injection e with e1 e2 e3
  subst e3
  rw [h.len] at h1
  exact ⟨h1, h2⟩
end

/-- Some disk was drawn. -/
def DkD (K : Nat) (w : World) (rb p : Nat) (e : Ending) (w' : World) : Prop := ∃ (x : DA) (d : Dk) (k : Nat), e = .returned x.v ∧ DRd w' x d ∧ From w.heap.size x.C ∧ From w.heap.size x.W ∧ Rs w' rb (p + k) ∧ k ≤ K ∧ Kp [rb] w w'
theorem LD.rd {w0 W : World} {rb B q n cb g c : Nat} {gn : Bool} {ws : List Wt} (h : LD w0 rb B q n cb g c gn ws W) : (∃ d, DRd W ⟨some ⟨cb, 0, none⟩, 64, 64, some ⟨g, 0, none⟩, n, c, gn⟩ d) ∧ (∃ d, DRd W ⟨some ⟨cb, 1, none⟩, 63, 63, some ⟨g, 0, none⟩, n, c, gn⟩ d) := by
  obtain ⟨l, hr, hl, hz⟩ := h.st.row
  obtain ⟨A, c', e, h1, h2, _, hrw⟩ := h.own.form
  injection e with e1 e2 e3
  subst e1
  subst e3
  have hlen := h.len
  refine ⟨⟨⟨l, ws, gn⟩, hr, hrw, hl, hlen, Nat.le_refl _, by rw [← hlen]; exact h1, (by show (64 : Nat) ≤ _; omega), h2, rfl, fun s hs => by have := hz s hs; omega, fun y hy => by have := h.wz y hy; omega⟩, ⟨⟨l.drop 1, ws, gn⟩, ?_, hrw, by simp [hl], hlen, Nat.le_refl _, by rw [← hlen]; exact h1, (by show (63 : Nat) ≤ _; omega), h2, rfl, fun s hs => by have := hz s (List.mem_of_mem_drop hs); omega, fun y hy => by have := h.wz y hy; omega⟩⟩
  have := hr.drop 1 rfl
  simpa using this

end Go.Proofs.Ytamljoffmkcbnaa
