/- append onto a row of the call's own, of what a slice reads as: the new row, as lists of elements. -/
import Derived.Test.YtamljoffmkcbnaaSlice
import Derived.Maps.AppendAt
import Derived.Deep.AppendLies
import Derived.Deep.RegionLaw
import Derived.RegionTactic
namespace Go.Proofs.Ytamljoffmkcbnaa
open Go.RowKit
set_option linter.unusedVariables false

/-- A slice type t of elements of type T: cells and bytes an element. -/
structure El (t T sz bytes : Nat) : Prop where
  und : Try.prog.underlying t = some (.slice T)
  info : ∃ i z, Try.prog.info? T = some i ∧ i.zero = some z ∧ i.size = sz ∧ i.bytes = bytes ∧ z.cells.size = sz
  pos : 0 < sz
theorem El.mk' {t T sz bytes : Nat} {z : Value} (h : Try.prog.underlying t = some (.slice T)) (hi : (Try.prog.info? T).map (fun i => (i.zero, i.size, i.bytes)) = some (some z, sz, bytes)) (hz : z.cells.size = sz) (hp : 0 < sz) : El t T sz bytes := by
  obtain ⟨i, h1, h2, h3, h4⟩ := info_parts hi
  exact ⟨h, ⟨i, z, h1, h2, h3, h4, hz⟩, hp⟩

/-- Each cell of an element is one cell. -/
def OneC {α : Type} (enc : α → Nat → Value) : Prop := ∀ x j, (enc x j).oneCell' = true
theorem oneC_cells {α : Type} {enc : α → Nat → Value} (h : OneC enc) {sz : Nat} : ∀ (l : List α), ∀ u ∈ cellsOf enc sz l, u.oneCell' = true
  | [], u, hu => by simp [cellsOf] at hu
  | x :: r, u, hu => by
    simp only [cellsOf, List.mem_append, List.mem_map] at hu
    rcases hu with ⟨j, _, rfl⟩ | hu
    · exact h x j
    · exact oneC_cells h r u hu

section
variable {α : Type} {enc : α → Nat → Value} {t T sz bytes base : Nat} {w : World}

theorem addr_add (b off j : Nat) : (⟨b, off, none⟩ : Addr).add j = ⟨b, off + j, none⟩ := by
  unfold Addr.add
  split
  · next h => subst h; simp
  · rfl
/-- The cells that a slice reads as, at its address. -/
theorem RdT.cells {A : Option Addr} {ys : List α} (h : RdT enc sz w A ys) (hn : 0 < ys.length) (hp : 0 < sz) : ∃ ad, A = some ad ∧ ∀ j u, (cellsOf enc sz ys)[j]? = some u → w.cell? (ad.add j) = some u := by
  obtain ⟨b, off, rfl, hb, hc⟩ := h hn
  refine ⟨_, rfl, fun j u hu => ?_⟩
  have hj : j < ys.length * sz := by
    rcases Nat.lt_or_ge j (ys.length * sz) with h' | h'
    · exact h'
    · rw [List.getElem?_eq_none (by rw [cellsOf_length]; exact h')] at hu; cases hu
  have hq : j / sz < ys.length := (Nat.div_lt_iff_lt_mul hp).2 hj
  have hx : ys[j / sz]? = some ys[j / sz] := List.getElem?_eq_getElem hq
  have hr : j % sz < sz := Nat.mod_lt _ hp
  have e : j / sz * sz + j % sz = j := by rw [Nat.mul_comm]; exact Nat.div_add_mod j sz
  have h1 := cellsOf_get (enc := enc) (sz := sz) ys _ _ _ hx hr
  rw [e, hu] at h1
  have h2 := hc _ _ hx _ hr
  rw [addr_add, h1, ← h2, Nat.add_assoc, e]

theorem run_app (E : El t T sz bytes) (ty : TypeId) {v : Value} {xs : List α} (hown : Own enc sz T base w v xs) {A : Option Addr} {ys : List α} {m : Nat} (hm : m = ys.length) (c : Nat) (hr : RdT enc sz w A ys) (h1 : OneC enc)
    (hb : (xs.length + ys.length) * bytes ≤ 140737488355328) (h63 : xs.length + ys.length ≤ maxLen) (hbase : base ≤ w.heap.size) :
    ∃ v' w', (Builtin.append_ #[t, t] ty #[v, .slice A m c]).run Try.prog w = .ok v' w' ∧ Own enc sz T base w' v' (xs ++ ys) ∧ w.grownBy w' v.ownBlock ∧ (v'.ownBlock = v.ownBlock ∨ v'.ownBlock = some w.heap.size) := by
  subst hm
  obtain ⟨i, z, hi, hz, hs, hy, hzs⟩ := E.info
  have conv : ∀ {v' : Value} {w' : World}, w'.ownsRow base T sz v' (xs.length + ys.length) (cellsOf enc sz xs ++ cellsOf enc sz ys) → Own enc sz T base w' v' (xs ++ ys) := fun h => by
    unfold Own
    rw [List.length_append, cellsOf_append]
    exact h
  have nilcase : A = none → ys = [] := fun hA => by
    rcases Nat.eq_zero_or_pos ys.length with h0 | h0
    · exact List.length_eq_zero_iff.1 h0
    · obtain ⟨ad, h, _⟩ := hr.cells h0 E.pos
      rw [hA] at h
      cases h
  rcases A with _ | ad
  · have hy0 := nilcase rfl
    subst hy0
    refine ⟨v, w, ?_, by simpa using hown, World.grownBy.refl w _, .inl rfl⟩
    rcases hown.2 with ⟨rfl, h0⟩ | ⟨g, cap, cur, rfl, _, _, hnc, _⟩
    · simp [Builtin.append_, run_underlying E.und, sizeOf, typeInfo, hi, Builtin.lenOf, Builtin.firstCells]
    · simp [Builtin.append_, run_underlying E.und, sizeOf, typeInfo, hi, Builtin.lenOf, Builtin.firstCells, hnc, storeCells]
  · have hcells : ∀ j u, (cellsOf enc sz ys)[j]? = some u → w.cell? (ad.add j) = some u := by
      rcases Nat.eq_zero_or_pos ys.length with h0 | h0
      · have := List.length_eq_zero_iff.1 h0
        subst this
        intro j u hu
        simp [cellsOf] at hu
      · obtain ⟨ad', h, hc⟩ := hr.cells h0 E.pos
        injection h with h
        subst h
        exact hc
    obtain ⟨v', w', hrun, h2, h3, _, h5⟩ := run_append_own_at (P := Try.prog) w base t ty T i z sz bytes E.und hi hz hs hy hzs E.pos v xs.length (cellsOf enc sz xs) hown ad ys.length c (cellsOf enc sz ys) (by rw [cellsOf_length]) hcells (oneC_cells h1 ys) h63 hb hbase
    exact ⟨v', w', hrun, conv h2, h3, h5⟩

theorem wp_app {o : Oper} {a : Act} {K : Act → World → Prop} {Q : Exit → Act → World → Prop} (E : El t T sz bytes) (s x : Operand)
    (ho : o.op = .call { callee := .builtin .append, args := #[s, x], argTypes := #[t, t] })
    {v : Value} {xs : List α} (hs : a.eval s = v) (hown : Own enc sz T base w v xs) {A : Option Addr} {ys : List α} {m c : Nat} (hx : a.eval x = .slice A m c) (hm : m = ys.length) (hr : RdT enc sz w A ys) (h1 : OneC enc)
    (hb : (xs.length + ys.length) * bytes ≤ 140737488355328) (h63 : xs.length + ys.length ≤ maxLen) (hbase : base ≤ w.heap.size)
    (h : ∀ v' w', Own enc sz T base w' v' (xs ++ ys) → w.grownBy w' v.ownBlock → (v'.ownBlock = v.ownBlock ∨ v'.ownBlock = some w.heap.size) → K (a.put o.dst v') w') : o.wp Try.prog a w K Q := by
  obtain ⟨v', w', hrun, h2, h3, h4⟩ := run_app E o.type hown hm c hr h1 hb h63 hbase
  unfold Oper.wp execOp
  simp only [ho, resolve, invoke, builtin, Sem.run_bind, Sem.run_pure, Result.andThen_ok, List.map_toArray, List.map_cons, List.map_nil, hs, hx, hrun]
  exact h v' w' h2 h3 h4

theorem wpList_app {ops : Array Oper} {rest : List Oper} {o : Oper} {a : Act} {Q : Exit → Act → World → Prop} (E : El t T sz bytes) (hgd : o.guard = none) (s x : Operand)
    (ho : o.op = .call { callee := .builtin .append, args := #[s, x], argTypes := #[t, t] })
    {v : Value} {xs : List α} (hs : a.eval s = v) (hown : Own enc sz T base w v xs) {A : Option Addr} {ys : List α} {m c : Nat} (hx : a.eval x = .slice A m c) (hm : m = ys.length) (hr : RdT enc sz w A ys) (h1 : OneC enc)
    (hb : (xs.length + ys.length) * bytes ≤ 140737488355328) (h63 : xs.length + ys.length ≤ maxLen) (hbase : base ≤ w.heap.size)
    (h : ∀ v' w', Own enc sz T base w' v' (xs ++ ys) → w.grownBy w' v.ownBlock → (v'.ownBlock = v.ownBlock ∨ v'.ownBlock = some w.heap.size) → wpList Try.prog ops Q rest (a.put o.dst v') w') : wpList Try.prog ops Q (o :: rest) a w :=
  wpList_plain hgd fun _ hK => wp_app E s x ho hs hown hx hm hr h1 hb h63 hbase fun v' w' h2 h3 h4 => hK _ _ (h v' w' h2 h3 h4)

theorem step_app {ops : Array Oper} {o : Oper} {a : Act} {K : Act → World → Prop} {Q : Exit → Act → World → Prop} {F : Prop} (E : El t T sz bytes) (hgd : o.guard = none) (s x : Operand)
    (ho : o.op = .call { callee := .builtin .append, args := #[s, x], argTypes := #[t, t] })
    {v : Value} {xs : List α} (hs : a.eval s = v) (hown : Own enc sz T base w v xs) {A : Option Addr} {ys : List α} {m c : Nat} (hx : a.eval x = .slice A m c) (hm : m = ys.length) (hr : RdT enc sz w A ys) (h1 : OneC enc)
    (hb : (xs.length + ys.length) * bytes ≤ 140737488355328) (h63 : xs.length + ys.length ≤ maxLen) (hbase : base ≤ w.heap.size)
    (h : ∀ v' w', Own enc sz T base w' v' (xs ++ ys) → w.grownBy w' v.ownBlock → (v'.ownBlock = v.ownBlock ∨ v'.ownBlock = some w.heap.size) → K (a.put o.dst v') w') :
    if Region.wanted o (yielded ops a.tmps) = true then Oper.wp Try.prog o a w K Q else F := by
  have hw : Region.wanted o (yielded ops a.tmps) = true := by simp [Region.wanted, hgd]
  rw [if_pos hw]
  exact wp_app E s x ho hs hown hx hm hr h1 hb h63 hbase h

/-- An empty literal: a row of the call's own that owns nothing. -/
theorem Own.empty (hb : base ≤ w.heap.size) : Own enc sz T base (w.alloc (.cells #[] T)) (.slice (some ⟨w.heap.size, 0, none⟩) 0 0) ([] : List α) :=
  ⟨by simp [cellsOf], .inr ⟨w.heap.size, 0, #[], rfl, hb, heap_alloc_new w _, Nat.le_refl _, by unfold maxLen; omega, by simp, by simp [cellsOf]⟩⟩
theorem RdT.drop {A : Option Addr} {xs : List α} (h : RdT enc sz w A xs) (k : Nat) {b off : Nat} (hA : A = some ⟨b, off, none⟩) : RdT enc sz w (some ⟨b, off + k * sz, none⟩) (xs.drop k) := fun hn => by
  rw [List.length_drop] at hn
  obtain ⟨b', off', e, hr⟩ := h (by omega)
  rw [hA] at e
  cases e
  exact ⟨b, off + k * sz, rfl, hr.tail k rfl⟩
/-- Behind a law that ends in 'grownBy'. -/
theorem below_grown {w0 W W' : World} {v : Value} {xs : List α} (h : Below w0.heap.size w0 W) (hown : Own enc sz T w0.heap.size W v xs) (hg : W.grownBy W' v.ownBlock) : Below w0.heap.size w0 W' :=
  h.grown hg h.size (fun k hk => by
    rcases hown.2 with ⟨rfl, _⟩ | ⟨g, cap, cur, rfl, hb, _⟩
    · simp [Value.ownBlock] at hk
    · simp [Value.ownBlock] at hk
      omega)
end

end Go.Proofs.Ytamljoffmkcbnaa
