/- Disks that are drawn: what their memory is, and what keeps it. -/
import Derived.Test.YtamljoffmkcbnaaRaidArg2
import Derived.Test.YtamljoffmkcbnaaDrawPtr2
import Derived.Test.YtamljoffmkcbnaaAppend
namespace Go.Proofs.Ytamljoffmkcbnaa
open Go.RowKit
set_option maxRecDepth 100000
set_option linter.unusedVariables false
set_option linter.unusedSimpArgs false

/-- A block of cells of a type. -/
def Tag (w : World) (b : Nat) (T : TypeId) : Prop := ∃ cs, w.heap[b]? = some (.cells cs T)
section
variable {w w' : World} {b : Nat} {T T' : TypeId}
theorem Tag.lt (h : Tag w b T) : b < w.heap.size := by
  obtain ⟨cs, h⟩ := h
  exact BoxAt.lt h
theorem Tag.one (h : Tag w b T) (g : Tag w b T') : T = T' := by
  obtain ⟨cs, h⟩ := h
  obtain ⟨ds, g⟩ := g
  rw [h] at g
  cases g
  rfl
theorem Tag.keep (h : Tag w b T) (hb : w'.heap[b]? = w.heap[b]?) : Tag w' b T := by
  obtain ⟨cs, h⟩ := h
  exact ⟨cs, hb.trans h⟩
theorem Tag.set (h : Tag w b T) (b' j : Nat) (u : Value) : Tag (w.setCell ⟨b', j, none⟩ u) b T := by
  by_cases hb : b = b'
  · subst hb
    obtain ⟨cs, h⟩ := h
    exact ⟨_, box_putB h j u⟩
  · exact h.keep (Below.heap_setCell _ _ _ _ hb)
theorem Tag.below (h : Tag w b T) (hB : Below w.heap.size w w') : Tag w' b T := h.keep (hB.block b h.lt)
theorem Tag.box {cs : Array Value} (h : BoxAt w b cs T) : Tag w b T := ⟨cs, h⟩
end
theorem own_tag {α : Type} {enc : α → Nat → Value} {sz base g n cap : Nat} {T : TypeId} {w : World} {l : List α} (h : Own enc sz T base w (.slice (some ⟨g, 0, none⟩) n cap) l) : Tag w g T := by
  rcases h.2 with ⟨hv, _⟩ | ⟨g', cap', cur, hv, _, hh, _⟩
  · cases hv
  · cases hv
    exact ⟨_, hh⟩

/-- A row of 64 texts. -/
def TStr (w : World) (b : Nat) : Prop := ∃ l : List ByteArray, Own encS 1 9 0 w (.slice (some ⟨b, 0, none⟩) 64 64) l ∧ l.length = 64 ∧ ∀ s ∈ l, s.size ≤ 1000
section
variable {w w' : World} {b : Nat}
theorem TStr.tag (h : TStr w b) : Tag w b 9 := by
  obtain ⟨l, h, _⟩ := h
  exact own_tag h
theorem TStr.keep (h : TStr w b) (hb : w'.heap[b]? = w.heap[b]?) : TStr w' b := by
  obtain ⟨l, h, h1, h2⟩ := h
  exact ⟨l, h.keep (fun k _ _ hv => by simp [Value.ownBlock] at hv; subst hv; exact hb), h1, h2⟩
theorem TStr.set (h : TStr w b) (b' j : Nat) (s : ByteArray) (hj : j < 64) (hs : s.size ≤ 1000) : TStr (w.setCell ⟨b', j, none⟩ (.string s)) b := by
  by_cases hb : b = b'
  · subst hb
    obtain ⟨l, h, h1, h2⟩ := h
    refine ⟨l.set j s, ?_, by rw [List.length_set]; exact h1, fun x hx => ?_⟩
    · unfold Own at *
      have e := cellsOf_set1 (enc := encS) l j s (by omega)
      rw [List.length_set, ← e]
      rw [h1] at h ⊢
      exact (World.ownsRow.stored h j (.string s)).1
    · rcases List.mem_or_eq_of_mem_set hx with hx | hx
      · exact h2 x hx
      · rw [hx]; exact hs
  · exact h.keep (Below.heap_setCell _ _ _ _ hb)
theorem TStr.row (h : TStr w b) : ∃ l : List ByteArray, RdT encS 1 w (some ⟨b, 0, none⟩) l ∧ l.length = 64 ∧ ∀ s ∈ l, s.size ≤ 1000 := by
  obtain ⟨l, h, h1, h2⟩ := h
  obtain ⟨A, cap, e, _, _, _, hr⟩ := h.form
  injection e with e1 e2 e3
  subst e1
  exact ⟨l, hr, h1, h2⟩
theorem TStr.cell (h : TStr w b) (j : Nat) (hj : j < 64) : ∃ s : ByteArray, w.cell? ⟨b, j, none⟩ = some (.string s) ∧ s.size ≤ 1000 ∧ w.frozen? ⟨b, j, none⟩ = false := by
  obtain ⟨l, h, h1, h2⟩ := h
  unfold Own at h
  rw [h1] at h
  have hc := h.cellAt j (by omega)
  have hf := World.ownsRow.frozenAt h j
  have he : l[j]? = some l[j] := List.getElem?_eq_getElem (by omega)
  have := cellsOf_get (enc := encS) (sz := 1) l j 0 _ he (by omega)
  rw [show j * 1 + 0 = j by omega] at this
  exact ⟨l[j], hc.trans this, h2 _ (List.getElem_mem _), hf⟩
end

/-- A step that writes texts into rows of texts, and else but new memory and the blocks named. -/
structure SS (base : Nat) (ex : List Nat) (w w' : World) : Prop where
  bel : Below base w w'
  str : ∀ b, TStr w b → TStr w' b
  tag : ∀ b T, Tag w b T → Tag w' b T
  oth : ∀ b T, Tag w b T → T ≠ 9 → b ∉ ex → w'.heap[b]? = w.heap[b]?
section
variable {base : Nat} {ex : List Nat} {w w' w'' : World}
theorem SS.refl : SS base ex w w := ⟨Below.refl _ _, fun _ h => h, fun _ _ h => h, fun _ _ _ _ _ => rfl⟩
theorem SS.trans (h : SS base ex w w') (k : SS base ex w' w'') : SS base ex w w'' :=
  ⟨h.bel.trans k.bel, fun b x => k.str b (h.str b x), fun b T x => k.tag b T (h.tag b T x), fun b T x hn he => (k.oth b T (h.tag b T x) hn he).trans (h.oth b T x hn he)⟩
theorem SS.drew (h : SS base ex w w') : SS base ex w w'.drew := ⟨h.bel.drew, fun b x => h.str b x, fun b T x => h.tag b T x, fun b T x hn he => h.oth b T x hn he⟩
theorem SS.of_below (hb : base ≤ w.heap.size) (h : Below w.heap.size w w') : SS base ex w w' :=
  ⟨h.mono hb, fun b x => x.keep (h.block b x.tag.lt), fun b T x => x.below h, fun b T x _ _ => h.block b x.lt⟩
theorem SS.more {ex' : List Nat} (h : SS base ex w w') (he : ∀ k ∈ ex, k ∈ ex') : SS base ex' w w' :=
  ⟨h.bel, h.str, h.tag, fun b T x hn hx => h.oth b T x hn (fun hm => hx (he b hm))⟩
theorem SS.setS {b' j : Nat} {s : ByteArray} (h : TStr w b') (hb : base ≤ b') (hj : j < 64) (hs : s.size ≤ 1000) : SS base ex w (w.setCell ⟨b', j, none⟩ (.string s)) :=
  ⟨(Below.refl _ _).setCell hb _, fun b x => x.set b' j s hj hs, fun b T x => x.set b' j _, fun b T x hn _ => Below.heap_setCell _ _ _ _ (fun e => hn (x.one (by have := h.tag; rw [← (show b = b' from e)] at this; exact this)))⟩
theorem SS.setX {b' j : Nat} {u : Value} {T' : TypeId} (h : Tag w b' T') (hT : T' ≠ 9) (hb : base ≤ b') (hx : b' ∈ ex) : SS base ex w (w.setCell ⟨b', j, none⟩ u) :=
  ⟨(Below.refl _ _).setCell hb _, fun b x => x.keep (Below.heap_setCell _ _ _ _ (fun e => hT (h.one (by have := x.tag; rw [(show b = b' from e)] at this; exact this)))), fun b T x => x.set b' j _, fun b T x hn hbx => Below.heap_setCell _ _ _ _ (fun e => hbx (by rw [(show b = b' from e)]; exact hx))⟩
end

/-- A disk that was drawn, and that may be written on. -/
structure DI (base m : Nat) (w : World) (x : DA) : Prop where
  c : ∃ b, x.C = some ⟨b, 0, none⟩ ∧ base ≤ b ∧ TStr w b
  nC : x.nC = 64
  cC : x.cC = 64
  wt : ∃ ws : List Wt, RdT encW 2 w x.W ws ∧ ws.length = x.nW ∧ ∀ y ∈ ws, inB y.at_ 0 63 = true ∧ y.text.size ≤ 1000
  hW : x.nW ≤ x.cW
  mW : x.cW ≤ 9223372036854775807
  m : x.nW ≤ m
  tg : ∀ a, x.W = some a → base ≤ a.block ∧ Tag w a.block 75
section
variable {base m : Nat} {w w' : World} {x : DA}
theorem DI.rd (h : DI base m w x) : ∃ d : Dk, DRd w x d ∧ d.gone = x.g := by
  obtain ⟨⟨b, hC, _, hb⟩, nC, cC, ⟨ws, hw, hl, hz⟩, hW, mW, _, _⟩ := h
  obtain ⟨l, hr, hl64, hz64⟩ := hb.row
  exact ⟨⟨l, ws, x.g⟩, ⟨by rw [hC]; exact hr, hw, by rw [nC]; exact hl64, hl, by omega, hW, by omega, mW, rfl, fun s hs => by have := hz64 s hs; omega, fun y hy => by have := (hz y hy).2; omega⟩, rfl⟩
theorem DI.more {m' : Nat} (h : DI base m w x) (hm : m ≤ m') : DI base m' w x := { h with m := Nat.le_trans h.m hm }
theorem DI.of {ex : List Nat} (h : DI base m w x) (hs : SS base ex w w') (he : ∀ k ∈ ex, ¬ Tag w k 75) : DI base m w' x := by
  obtain ⟨⟨b, hC, hb, hst⟩, nC, cC, ⟨ws, hw, hl, hz⟩, hW, mW, hm, tg⟩ := h
  refine ⟨⟨b, hC, hb, hs.str b hst⟩, nC, cC, ⟨ws, ?_, hl, hz⟩, hW, mW, hm, fun a ha => ⟨(tg a ha).1, hs.tag _ _ (tg a ha).2⟩⟩
  intro hn
  obtain ⟨c, off, e, hlt, hr⟩ := hw hn
  have ht := (tg _ e).2
  have hb' := hs.oth c _ ht (by decide) (fun hm => he c hm ht)
  have hlt' : c < w'.heap.size := (hs.tag _ _ ht).lt
  exact ⟨c, off, e, hlt', fun i y hy j hj => (World.cell?_of_block (w := w) (a := ⟨c, _, none⟩) hb').trans (hr i y hy j hj)⟩
theorem DI.kp {ex : List Nat} (h : DI base m w x) (hK : Kp ex w w') (he : ∀ k ∈ ex, k < base) : DI base m w' x := by
  obtain ⟨⟨b, hC, hb, hst⟩, nC, cC, ⟨ws, hw, hl, hz⟩, hW, mW, hm, tg⟩ := h
  have hkeep : ∀ b T, base ≤ b → Tag w b T → w'.heap[b]? = w.heap[b]? := fun b T hb ht => hK.block b ht.lt (fun hm => by have := he b hm; omega)
  exact ⟨⟨b, hC, hb, hst.keep (hkeep b _ hb hst.tag)⟩, nC, cC, ⟨ws, hw.kp hK (fun _ a ha hm => by have := (tg a ha).1; have := he _ hm; omega), hl, hz⟩, hW, mW, hm, fun a ha => ⟨(tg a ha).1, (tg a ha).2.keep (hkeep _ _ (tg a ha).1 (tg a ha).2)⟩⟩
theorem DI.ss (h : DI base m w x) (hs : SS base [] w w') : DI base m w' x := h.of hs (fun _ hm => by cases hm)
theorem DI.lower {base' : Nat} (h : DI base m w x) (hb : base' ≤ base) : DI base' m w x := by
  obtain ⟨⟨b, hC, hb', hst⟩, r1, r2, r3, r4, r5, r6, tg⟩ := h
  exact ⟨⟨b, hC, by omega, hst⟩, r1, r2, r3, r4, r5, r6, fun a ha => ⟨by have := (tg a ha).1; omega, (tg a ha).2⟩⟩
end

/-- The disks of a pool, drawn. -/
structure RI (base m : Nat) (w : World) (D cap : Nat) (xs : List DA) : Prop where
  row : Own encD 3 51 base w (.slice (some ⟨D, 0, none⟩) 3 cap) xs
  len : xs.length = 3
  each : ∀ x ∈ xs, DI base m w x
section
variable {base m : Nat} {w w' : World} {D cap : Nat} {xs : List DA}
theorem RI.tag (h : RI base m w D cap xs) : Tag w D 51 := own_tag h.row
theorem RI.lt (h : RI base m w D cap xs) : D < w.heap.size := h.tag.lt
theorem RI.ge (h : RI base m w D cap xs) : base ≤ D := by
  rcases h.row.2 with ⟨hv, _⟩ | ⟨g', cap', cur, hv, hg, _⟩
  · cases hv
  · injection hv with e1 e2 e3
    injection e1 with e1
    injection e1 with e1
    rw [e1]; exact hg
theorem RI.row3 (h : RI base m w D cap xs) : w.ownsRow base 51 3 (.slice (some ⟨D, 0, none⟩) 3 cap) 3 (cellsOf encD 3 xs) := by
  have := h.row
  unfold Own at this
  rw [h.len] at this
  exact this
theorem RI.cap3 (h : RI base m w D cap xs) : 3 ≤ cap ∧ cap ≤ 9223372036854775807 := by
  obtain ⟨A, c, e, h1, h2, _⟩ := h.row.form
  injection e with e1 e2 e3
  subst e3
  rw [h.len] at h1
  exact ⟨h1, h2⟩
theorem RI.rows (h : RI base m w D cap xs) : RdT encD 3 w (some ⟨D, 0, none⟩) xs := by
  obtain ⟨A, c, e, _, _, _, hr⟩ := h.row.form
  injection e with e1 e2 e3
  subst e1
  exact hr
theorem RI.more {m' : Nat} (h : RI base m w D cap xs) (hm : m ≤ m') : RI base m' w D cap xs := ⟨h.row, h.len, fun x hx => (h.each x hx).more hm⟩
theorem RI.ss (h : RI base m w D cap xs) (hs : SS base [] w w') : RI base m w' D cap xs :=
  ⟨h.row.keep (fun k _ hl hv => by simp [Value.ownBlock] at hv; subst hv; exact hs.oth _ _ h.tag (by decide) (by simp)), h.len, fun x hx => (h.each x hx).ss hs⟩
theorem RI.below (h : RI base m w D cap xs) (hb : base ≤ w.heap.size) (hB : Below w.heap.size w w') : RI base m w' D cap xs := h.ss (SS.of_below hb hB)
theorem RI.kp {ex : List Nat} (h : RI base m w D cap xs) (hK : Kp ex w w') (he : ∀ k ∈ ex, k < base) : RI base m w' D cap xs :=
  ⟨h.row.kp hK (fun k hk e => by simp [Value.ownBlock] at e; subst e; have := h.ge; have := he _ hk; omega), h.len, fun x hx => (h.each x hx).kp hK he⟩
theorem RI.rrd (h : RI base m w D cap xs) : ∃ ds, RRd w (some ⟨D, 0, none⟩) cap xs ds := by
  obtain ⟨ds, h1, h2⟩ := (show ∃ ds : List Dk, ds.length = xs.length ∧ ∀ (i : Nat) (x : DA), xs[i]? = some x → ∃ d, ds[i]? = some d ∧ DRd w x d from by
    have : ∀ x ∈ xs, ∃ d, DRd w x d := fun x hx => by obtain ⟨d, hd, _⟩ := (h.each x hx).rd; exact ⟨d, hd⟩
    clear h
    induction xs with
    | nil => exact ⟨[], rfl, fun i x hx => by simp at hx⟩
    | cons x r ih =>
      obtain ⟨d, hd⟩ := this x (by simp)
      obtain ⟨ds, h1, h2⟩ := ih (fun y hy => this y (by simp [hy]))
      refine ⟨d :: ds, by simp [h1], fun i y hy => ?_⟩
      cases i with
      | zero => simp at hy; subst hy; exact ⟨d, rfl, hd⟩
      | succ i => exact h2 i y (by simpa using hy))
  exact ⟨ds, h.rows, h1, by have := h.len; have := h.cap3; omega, h.cap3.2, h2⟩
/-- One disk replaced. -/
theorem RI.set (h : RI base m w D cap xs) {k : Nat} (hk : k < 3) {y : DA} (hy : DI base m w y) :
    RI base m (((w.setCell ⟨D, k * 3, none⟩ (.slice y.C y.nC y.cC)).setCell ⟨D, k * 3 + 1, none⟩ (.slice y.W y.nW y.cW)).setCell ⟨D, k * 3 + 2, none⟩ (.bool y.g)) D cap (xs.set k y) ∧ SS base [D] w (((w.setCell ⟨D, k * 3, none⟩ (.slice y.C y.nC y.cC)).setCell ⟨D, k * 3 + 1, none⟩ (.slice y.W y.nW y.cW)).setCell ⟨D, k * 3 + 2, none⟩ (.bool y.g)) := by
  have ht := h.tag
  have hg := h.ge
  have hne : (51 : TypeId) ≠ 9 := by decide
  have s1 : SS base [D] w (w.setCell ⟨D, k * 3, none⟩ (.slice y.C y.nC y.cC)) := SS.setX ht hne hg (by simp)
  have s2 := s1.trans (SS.setX (j := k * 3 + 1) (u := .slice y.W y.nW y.cW) (s1.tag _ _ ht) hne hg (by simp))
  have s3 := s2.trans (SS.setX (j := k * 3 + 2) (u := .bool y.g) (s2.tag _ _ ht) hne hg (by simp))
  have hw : ∀ k ∈ [D], ¬ Tag w k 75 := fun k hk ht' => by
    simp at hk
    subst hk
    exact absurd (ht.one ht') (by decide)
  refine ⟨⟨?_, by rw [List.length_set]; exact h.len, fun x hx => ?_⟩, s3⟩
  · have e := cellsOf_set3 (enc := encD) xs k y (by rw [h.len]; exact hk)
    have h1 := (World.ownsRow.stored (World.ownsRow.stored (World.ownsRow.stored h.row3 (k * 3) (.slice y.C y.nC y.cC)).1 (k * 3 + 1) (.slice y.W y.nW y.cW)).1 (k * 3 + 2) (.bool y.g)).1
    unfold Own
    rw [List.length_set, ← e, h.len]
    exact h1
  · rcases List.mem_or_eq_of_mem_set hx with hx | hx
    · exact (h.each x hx).of s3 hw
    · rw [hx]; exact hy.of s3 hw
/-- The cells of one disk in the row. -/
theorem RI.at (h : RI base m w D cap xs) {k : Nat} (hk : k < 3) : ∃ x : DA, xs[k]? = some x ∧ DI base m w x ∧ w.cell? ⟨D, k * 3, none⟩ = some (.slice x.C x.nC x.cC) ∧ w.cell? ⟨D, k * 3 + 1, none⟩ = some (.slice x.W x.nW x.cW) ∧ w.cell? ⟨D, k * 3 + 2, none⟩ = some (.bool x.g) ∧
    w.frozen? ⟨D, k * 3, none⟩ = false ∧ w.frozen? ⟨D, k * 3 + 1, none⟩ = false ∧ w.frozen? ⟨D, k * 3 + 2, none⟩ = false := by
  obtain ⟨b, off, x, e, hb, he, c0, c1, c2⟩ := h.rows.disk (k := k) (by rw [h.len]; exact hk)
  cases e
  rw [show (0 : Nat) + k * 3 = k * 3 by omega] at c0 c1 c2
  exact ⟨x, he, h.each x (List.mem_of_getElem? he), c0, c1, c2, World.ownsRow.frozenAt h.row3 _, World.ownsRow.frozenAt h.row3 _, World.ownsRow.frozenAt h.row3 _⟩
end

/-- An append inside a drawn region; old memory is as it was. -/
theorem step_appR {α : Type} {enc : α → Nat → Value} {t T sz bytes base : Nat} {w : World} {ops : Array Oper} {o : Oper} {a : Act} {K : Act → World → Prop} {Q : Exit → Act → World → Prop} {F : Prop} (E : El t T sz bytes) (hgd : o.guard = none) (s x : Operand)
    (ho : o.op = .call { callee := .builtin .append, args := #[s, x], argTypes := #[t, t] })
    {v : Value} {xs : List α} (hs : a.eval s = v) (hown : Own enc sz T base w v xs) {A : Option Addr} {ys : List α} {m c : Nat} (hx : a.eval x = .slice A m c) (hm : m = ys.length) (hr : RdT enc sz w A ys) (h1 : OneC enc)
    (hb : (xs.length + ys.length) * bytes ≤ 140737488355328) (h63 : xs.length + ys.length ≤ maxLen) (hbase : base ≤ w.heap.size)
    (h : ∀ v' w', Own enc sz T base w' v' (xs ++ ys) → Below base w w' → w.grownBy w' v.ownBlock → (v'.ownBlock = v.ownBlock ∨ v'.ownBlock = some w.heap.size) → K (a.put o.dst v') w') :
    if Region.wanted o (yielded ops a.tmps) = true then Oper.wp Try.prog o a w K Q else F :=
  step_app E hgd s x ho hs hown hx hm hr h1 hb h63 hbase fun v' w' h2 h3 h4 => h v' w' h2 ((Below.refl base w).grown h3 hbase (fun k hk => by
    rcases hown.2 with ⟨rfl, _⟩ | ⟨g, cap, cur, rfl, hb, _⟩
    · simp [Value.ownBlock] at hk
    · simp [Value.ownBlock] at hk
      omega)) h3 h4
/-- A step that leaves rows of texts and of waits alone. -/
def KS (w w' : World) : Prop := w.heap.size ≤ w'.heap.size ∧ ∀ b T, Tag w b T → (T = 9 ∨ T = 75) → w'.heap[b]? = w.heap[b]?
section
variable {w w' w'' : World}
theorem KS.refl : KS w w := ⟨Nat.le_refl _, fun _ _ _ _ => rfl⟩
theorem KS.trans (h : KS w w') (k : KS w' w'') : KS w w'' := ⟨Nat.le_trans h.1 k.1, fun b T x hT => (k.2 b T (x.keep (h.2 b T x hT)) hT).trans (h.2 b T x hT)⟩
theorem KS.below (h : Below w.heap.size w w') : KS w w' := ⟨h.size, fun b T x _ => h.block b x.lt⟩
theorem KS.setX {b j : Nat} {u : Value} {T : TypeId} (h : Tag w b T) (h1 : T ≠ 9) (h2 : T ≠ 75) : KS w (w.setCell ⟨b, j, none⟩ u) :=
  ⟨by rw [World.size_setCell]; exact Nat.le_refl _, fun c T' x hT => Below.heap_setCell _ _ _ _ (fun e => by
    have e' : c = b := e
    subst e'
    have := h.one x
    subst this
    rcases hT with hT | hT
    · exact h1 hT
    · exact h2 hT)⟩
theorem KS.grown {α : Type} {enc : α → Nat → Value} {sz base : Nat} {T : TypeId} {v : Value} {xs : List α} (ho : Own enc sz T base w v xs) (hg : w.grownBy w' v.ownBlock) (hs : w.heap.size ≤ w'.heap.size) (h1 : T ≠ 9) (h2 : T ≠ 75) : KS w w' :=
  ⟨hs, fun c T' x hT => hg.block c x.lt (fun e => by
    rcases ho.2 with ⟨rfl, _⟩ | ⟨g, cap, cur, rfl, _, hh, _⟩
    · simp [Value.ownBlock] at e
    · simp [Value.ownBlock] at e
      subst e
      have := Tag.one (show Tag w c T from ⟨cur, hh⟩) x
      subst this
      rcases hT with hT | hT
      · exact h1 hT
      · exact h2 hT)⟩
theorem DI.ks {base m : Nat} {x : DA} (h : DI base m w x) (hs : KS w w') : DI base m w' x := by
  obtain ⟨⟨b, hC, hb, hst⟩, nC, cC, ⟨ws, hw, hl, hz⟩, hW, mW, hm, tg⟩ := h
  exact ⟨⟨b, hC, hb, hst.keep (hs.2 _ _ hst.tag (.inl rfl))⟩, nC, cC, ⟨ws, hw.keep hs.1 (fun _ a ha _ => hs.2 _ _ (tg a ha).2 (.inr rfl)), hl, hz⟩, hW, mW, hm, fun a ha => ⟨(tg a ha).1, (tg a ha).2.keep (hs.2 _ _ (tg a ha).2 (.inr rfl))⟩⟩
end
theorem own_block {α : Type} {enc : α → Nat → Value} {sz base : Nat} {T : TypeId} {w : World} {v : Value} {xs : List α} (h : Own enc sz T base w v xs) (hn : 0 < xs.length) : ∃ g cap, v = .slice (some ⟨g, 0, none⟩) xs.length cap := by
  rcases h.2 with ⟨_, h0⟩ | ⟨g, cap, cur, hv, _⟩
  · omega
  · exact ⟨g, cap, hv⟩
/-- A disk that is new. -/
def BI (base : Nat) (w : World) (x : DA) : Prop := DRd w x ⟨List.replicate 64 ⟨#[]⟩, [], false⟩ ∧ DI base 0 w x ∧ x.g = false
theorem BI.ks {base : Nat} {w w' : World} {x : DA} (h : BI base w x) (hs : KS w w') : BI base w' x := by
  obtain ⟨hr, hi, hg⟩ := h
  refine ⟨{ hr with cells := hr.cells.keep hs.1 (fun _ a ha _ => ?_), waits := RdT.none_ }, hi.ks hs, hg⟩
  obtain ⟨b, hC, _, hst⟩ := hi.c
  rw [hC] at ha
  cases ha
  exact hs.2 _ _ hst.tag (.inl rfl)

theorem BoxAt.grownT {α : Type} {enc : α → Nat → Value} {sz base b : Nat} {T T' : TypeId} {cs : Array Value} {w w' : World} {v : Value} {xs : List α} (h : BoxAt w b cs T') (ho : Own enc sz T base w v xs) (hg : w.grownBy w' v.ownBlock) (hT : T ≠ T') : BoxAt w' b cs T' :=
  (hg.block b h.lt (fun e => by
    rcases ho.2 with ⟨rfl, _⟩ | ⟨g, cap, cur, rfl, _, hh, _⟩
    · simp [Value.ownBlock] at e
    · simp [Value.ownBlock] at e
      subst e
      exact hT (Tag.one (show Tag w b T from ⟨cur, hh⟩) (Tag.box h)))).trans h
theorem undrewR {B n : Nat} {W W' : World} (h : Below B (W.drewN n) W') : Below B W W' := ⟨h.os, h.tape, h.output, h.size, h.block⟩

theorem own_baseD {α : Type} {enc : α → Nat → Value} {sz base : Nat} {T : TypeId} {w : World} {v : Value} {xs : List α} (h : Own enc sz T base w v xs) : ∀ k, v.ownBlock = some k → base ≤ k := by
  rcases h.2 with ⟨rfl, _⟩ | ⟨g, cap, cur, rfl, hg, _⟩
  · intro k hk; simp [Value.ownBlock] at hk
  · intro k hk; simp [Value.ownBlock] at hk; omega
theorem grown_size {w w' : World} {r : Option Nat} (h : w.grownBy w' r) : w.heap.size ≤ w'.heap.size := ((Below.refl 0 w).grown h (Nat.zero_le _) (fun _ _ => Nat.zero_le _)).size
/-- A call of a Go function inside a drawn region, by its contract. -/
theorem step_callR {ops : Array Oper} {o : Oper} {a : Act} {w : World} {K : Act → World → Prop} {Q : Exit → Act → World → Prop} {F : Prop} {f : FuncId} {aa : Array Operand} {ts : Array TypeId} {vs : Array Value} {R : Value → World → Prop} {fn : Func} (hf : Try.prog.funcs[f]? = some fn) (hname : (fn.name == "runtime.NumGoroutine") = false) (hb : fn.body.isNone = false) (hgd : o.guard = none)
    (ho : o.op = .call { callee := .value (.func f), args := aa, argTypes := ts }) (hvs : aa.map a.eval = vs) (hc : Calls Try.prog f vs w fun e w' => ∃ v, e = .returned v ∧ R v w')
    (h : ∀ v w', R v w' → K (a.put o.dst v) w') :
    if Region.wanted o (yielded ops a.tmps) = true then Oper.wp Try.prog o a w K Q else F := by
  have hw : Region.wanted o (yielded ops a.tmps) = true := by simp [Region.wanted, hgd]
  rw [if_pos hw]
  have hrun : (execOp a.eval o).run Try.prog w = .ok (.enter f vs) w := by
    have h1 : fn.name ≠ "runtime.NumGoroutine" := by simpa using hname
    have h2 : fn.body ≠ none := by
      intro e
      rw [e] at hb
      cases hb
    unfold execOp
    simp [ho, resolve, invoke, hvs, go_sem, callFunc, hf, h1, h2]
  unfold Oper.wp
  rw [hrun, Oper.upon_enter]
  refine hc.mono ?_
  rintro e w' ⟨v, rfl, hR⟩
  exact h v w' hR

end Go.Proofs.Ytamljoffmkcbnaa
