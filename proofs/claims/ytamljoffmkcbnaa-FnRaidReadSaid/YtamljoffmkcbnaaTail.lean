/- A drawn region that reads and calls quietly and ends in one store: walked once. -/
import Derived.Test.YtamljoffmkcbnaaQuiet
import Derived.StillTail
namespace Go.Proofs.Ytamljoffmkcbnaa
open Go Go.RowKit Go.Sort
set_option linter.unusedVariables false

/-- An operation that does nothing, in another's place. -/
def nopOf (o : Oper) : Oper := { o with op := .move (.const (.bool true)), dst := none, guard := none }
/-- Each operation waits for earlier ones alone. -/
def backB (ops : Array Oper) : Bool := (List.range ops.size).all fun i => match ops[i]? with
  | some o => o.after.all fun e => decide (e.on < i)
  | none => true

section
variable {P : Program} {C : World → Prop} {ops ops' : Array Oper} {md : Region.Mode}
theorem backB_spec (h : backB ops = true) {i : Nat} {o : Oper} (ho : ops[i]? = some o) {e : Edge} (he : e ∈ o.after) : e.on < i := by
  have hi : i < ops.size := (Array.getElem?_eq_some_iff.1 ho).1
  have := List.all_eq_true.1 h i (List.mem_range.2 hi)
  simp only [ho] at this
  have := Array.all_eq_true'.1 this e he
  simpa using this
theorem ready_ne (hb : backB ops = true) {listed : Array Bool} (hs : listed.size = ops.size) : ∀ (j : Nat), j < ops.size → listed.getD j true = false → Region.ready md ops listed ≠ [] := by
  intro j
  induction j using Nat.strongRecOn with
  | _ j ih =>
    intro hj hu
    have ho : ops[j]? = some ops[j] := Array.getElem?_eq_getElem hj
    by_cases hall : ∀ e ∈ ops[j].after, Region.binds md e = true → listed.getD e.on false = true
    · intro h0
      have : j ∈ Region.ready md ops listed := mem_ready.2 ⟨hu, ops[j], ho, hall⟩
      rw [h0] at this
      cases this
    · obtain ⟨e, hx⟩ := Classical.not_forall.1 hall
      obtain ⟨he, hx⟩ := Classical.not_imp.1 hx
      obtain ⟨hbd, hl⟩ := Classical.not_imp.1 hx
      have hlt := backB_spec hb ho he
      exact ih e.on hlt (by omega) (getD_in (by omega) (by simpa using hl))
theorem ready_same (hs : ops'.size = ops.size) (ha : ∀ i : Nat, (ops'[i]?).map (fun o : Oper => o.after) = (ops[i]?).map (fun o : Oper => o.after)) (listed : Array Bool) : Region.ready md ops' listed = Region.ready md ops listed := by
  unfold Region.ready
  rw [hs]
  congr 1
  funext i
  have h := ha i
  cases h1 : ops'[i]? <;> cases h2 : ops[i]? <;> rw [h1, h2] at h <;> simp at h ⊢
  rw [h]
theorem yielded_same (hd : ∀ i : Nat, (ops'[i]?).bind (fun o : Oper => o.dst) = (ops[i]?).bind (fun o : Oper => o.dst)) (t : Array Value) : yielded ops' t = yielded ops t := by
  funext j
  unfold yielded
  rw [hd j]
theorem wpQuiet_append {R : Act → Prop} : ∀ (l m : List Oper) (a : Act), wpQuiet P ops C (wpQuiet P ops C R m) l a → wpQuiet P ops C R (l ++ m) a
  | [], m, a, h => h
  | o :: l, m, a, h => by
    have h' : if Region.wanted o (yielded ops a.tmps) then o.quiet P a C (wpQuiet P ops C (wpQuiet P ops C R m) l) else wpQuiet P ops C (wpQuiet P ops C R m) l (a.put o.dst undef) := h
    show if Region.wanted o (yielded ops a.tmps) then o.quiet P a C (wpQuiet P ops C R (l ++ m)) else wpQuiet P ops C R (l ++ m) (a.put o.dst undef)
    split
    · next hw =>
      rw [if_pos hw] at h'
      exact Oper.quiet_mono (fun a' => wpQuiet_append l m a') h'
    · next hw =>
      rw [if_neg hw] at h'
      exact wpQuiet_append l m _ h'
theorem quiet_nop {R : Act → Prop} {o : Oper} {a : Act} : R a → wpQuiet P ops C R [nopOf o] a := fun h => by
  show if Region.wanted (nopOf o) (yielded ops a.tmps) then (nopOf o).quiet P a C R else R (a.put (nopOf o).dst undef)
  have hw : Region.wanted (nopOf o) (yielded ops a.tmps) = true := by simp [Region.wanted, nopOf]
  rw [if_pos hw]
  refine ⟨.bool true, fun w hw => ?_, h⟩
  unfold Oper.quietAt execOp
  simp [nopOf, Oper.quietUpon, Act.eval]

theorem any_of_quiet_tail {n : Nat} {st : Oper} {R : Act → Prop} {Q : Exit → Act → World → Prop} (hsz : ops.size = n + 1) (hst : ops[n]? = some st) (hst' : ops'[n]? = some (nopOf st)) (same : ∀ i, i ≠ n → ops'[i]? = ops[i]?)
    (hy : ∀ t, yielded ops' t = yielded ops t) (rdy : ∀ l, Region.ready md ops' l = Region.ready md ops l) (back : backB ops = true) (hs : Region.sinkB md ops n = true) (hc : Region.chainB md ops n = true)
    (hR : ∀ a w, C w → R a → wpOp P ops Q n (fun a' w' => Q .normal a' w') a w) :
    ∀ (fuel : Nat) (listed : Array Bool) (a : Act) (w : World), C w → HeadInv md ops n listed → wpAnyQ P md ops' C R fuel listed a → wpAny P md ops Q fuel listed a w
  | 0, listed, a, w, hw, inv, h => by
    have := h.1
    rw [rdy] at this
    exact absurd this (ready_ne back inv.size n (by omega) (inv.tail n (Nat.le_refl _) (by omega)))
  | f + 1, listed, a, w, hw, inv, h => by
    refine ⟨fun h0 => absurd h0 (ready_ne back inv.size n (by omega) (inv.tail n (Nat.le_refl _) (by omega))), fun i hi => ?_⟩
    have hq := h.2 i (by rw [rdy]; exact hi)
    by_cases hin : i = n
    · subst hin
      have hall : ∀ j, j < i → listed.getD j true = true := fun j hj => by
        cases hl : listed.getD j true with
        | true => rfl
        | false => exact absurd hi (tail_waits hs hc (by omega) inv _ j rfl hj hl i (Nat.le_refl _))
      have hemp : Region.ready md ops (listed.setIfInBounds i true) = [] := by
        rw [List.eq_nil_iff_forall_not_mem]
        intro j hj
        obtain ⟨h1, o, ho, _⟩ := mem_ready.1 hj
        have hjs : j < ops.size := (Array.getElem?_eq_some_iff.1 ho).1
        by_cases hji : j = i
        · subst hji
          simp [Array.getD, inv.size, hjs] at h1
        · rw [getD_set_ne true (fun e => hji e.symm), hall j (by omega)] at h1
          cases h1
      have hRa : R a := by
        unfold qOp at hq
        simp only [hst'] at hq
        have hw' : Region.wanted (nopOf st) (yielded ops' a.tmps) = true := by simp [Region.wanted, nopOf]
        rw [if_pos hw'] at hq
        obtain ⟨v, _, hk⟩ := hq
        have hk' : wpAnyQ P md ops' C R f (listed.setIfInBounds i true) a := hk
        cases f with
        | zero => exact hk'.2
        | succ f => exact hk'.1 (by rw [rdy]; exact hemp)
      refine wpOp_mono (fun a' w' hQ => ?_) (hR a w hw hRa)
      cases f with
      | zero => exact ⟨hemp, hQ⟩
      | succ f => exact ⟨fun _ => hQ, fun j hj => by rw [hemp] at hj; cases hj⟩
    · have hin' : i < n := by
        obtain ⟨_, o, ho, _⟩ := mem_ready.1 hi
        have := (Array.getElem?_eq_some_iff.1 ho).1
        omega
      have hq2 : qOp P ops C i (wpAnyQ P md ops' C R f (listed.setIfInBounds i true)) a := by
        unfold qOp at hq ⊢
        rw [same i hin, hy] at hq
        exact hq
      exact wpOp_of_qOp hw (fun a' w' hw' hk => any_of_quiet_tail hsz hst hst' same hy rdy back hs hc hR f _ a' w' hw' (inv.set hi hin') hk) hq2

/-- The region walked once, in the text's order, but for its last operation, which is walked in some world of which 'Below' is known. -/
theorem wp_quiet_tail {id : Nat} {Q : Exit → Act → World → Prop} {a : Act} {w : World} {l : List Oper} (n : Nat) {st : Oper} (hm : P.follows .mixedOrders = true) (hlen : l.length = n + 1) (hst : l[n]? = some st) (hdst : st.dst = none)
    (hB : Region.lexB .any (l.set n (nopOf st)).toArray = true) (hs : Region.sinkB .any l.toArray n = true) (hc : Region.chainB .any l.toArray n = true) (hb : backB l.toArray = true) (hC : C { w with drawn := w.drawn + 1 })
    (h : wpQuiet P (l.set n (nopOf st)).toArray C (fun a' => ∀ w', C w' → wpList P l.toArray Q [st] a' w') (l.take n) a) : (Code.region id l.toArray true).wp P Q a w := by
  have hsz : l.toArray.size = n + 1 := by simpa using hlen
  have hset : l.set n (nopOf st) = l.take n ++ [nopOf st] := by
    apply List.ext_getElem?
    intro i
    by_cases h1 : i < n
    · rw [List.getElem?_set_ne (by omega), List.getElem?_append_left (by rw [List.length_take]; omega), List.getElem?_take, if_pos h1]
    · have hl : (l.take n).length = n := by rw [List.length_take]; omega
      by_cases h2 : i = n
      · subst h2
        rw [List.getElem?_set_self (by omega), List.getElem?_append_right (by omega), hl, Nat.sub_self]
        rfl
      · rw [List.getElem?_eq_none (by rw [List.length_set]; omega), List.getElem?_eq_none (by rw [List.length_append, hl]; simp; omega)]
  have hst' : (l.set n (nopOf st)).toArray[n]? = some (nopOf st) := by
    simp only [List.getElem?_toArray]
    rw [List.getElem?_set_self (by omega)]
  have same : ∀ i, i ≠ n → (l.set n (nopOf st)).toArray[i]? = l.toArray[i]? := fun i hi => by
    simp only [List.getElem?_toArray]
    rw [List.getElem?_set_ne (fun e => hi e.symm)]
  have hst2 : l.toArray[n]? = some st := by simpa using hst
  have inv0 : HeadInv .any l.toArray n (Array.replicate l.toArray.size false) :=
    ⟨by simp, fun j oj _ hl => (by rw [getD_replicate_false] at hl; cases hl), fun t _ ht => getD_in (by simpa using ht) (getD_replicate_false _ _)⟩
  simp only [Region.lexB, Bool.and_eq_true] at hB
  have hq := wpAnyQ_lex (P := P) (C := C) (md := .any) hB.1 (l.set n (nopOf st)) 0 (Array.replicate l.length false) a (by simp) (by simpa using hB.2) (by
    have := wpQuiet_append (ops := (l.set n (nopOf st)).toArray) (l.take n) [nopOf st] a (R := fun a' => ∀ w', C w' → wpList P l.toArray Q [st] a' w') (by
      revert h
      have gen : ∀ (m : List Oper) (b : Act), wpQuiet P (l.set n (nopOf st)).toArray C (fun a' => ∀ w', C w' → wpList P l.toArray Q [st] a' w') m b → wpQuiet P (l.set n (nopOf st)).toArray C (wpQuiet P (l.set n (nopOf st)).toArray C (fun a' => ∀ w', C w' → wpList P l.toArray Q [st] a' w') [nopOf st]) m b := by
        intro m
        induction m with
        | nil => intro b hb; exact quiet_nop hb
        | cons o m ih =>
          intro b hb
          have hb' : if Region.wanted o (yielded (l.set n (nopOf st)).toArray b.tmps) then o.quiet P b C (wpQuiet P (l.set n (nopOf st)).toArray C (fun a' => ∀ w', C w' → wpList P l.toArray Q [st] a' w') m) else wpQuiet P (l.set n (nopOf st)).toArray C (fun a' => ∀ w', C w' → wpList P l.toArray Q [st] a' w') m (b.put o.dst undef) := hb
          show if Region.wanted o (yielded (l.set n (nopOf st)).toArray b.tmps) then o.quiet P b C (wpQuiet P (l.set n (nopOf st)).toArray C _ m) else wpQuiet P (l.set n (nopOf st)).toArray C _ m (b.put o.dst undef)
          split
          · next hw => rw [if_pos hw] at hb'; exact Oper.quiet_mono ih hb'
          · next hw => rw [if_neg hw] at hb'; exact ih _ hb'
      exact gen _ _)
    rw [← hset] at this
    exact this)
  refine wp_region_any hm ?_
  have := any_of_quiet_tail (P := P) (C := C) (md := .any) (Q := Q) (R := fun a' => ∀ w', C w' → wpList P l.toArray Q [st] a' w') hsz hst2 hst' same (yielded_same (fun i => by
      by_cases hi : i = n
      · subst hi; rw [hst', hst2]; simp [nopOf, hdst]
      · rw [same i hi])) (ready_same (by simp) (fun i => by
      by_cases hi : i = n
      · subst hi; rw [hst', hst2]; rfl
      · rw [same i hi])) hb hs hc (fun a' w' hw' hr => by
      have := hr w' hw'
      unfold wpOp
      simp only [hst2]
      exact this) (l.set n (nopOf st)).length (Array.replicate l.toArray.size false) a { w with drawn := w.drawn + 1 } hC inv0 (by simpa using hq)
  simpa using this
end

theorem wp_quiet_tail_b {P : Program} {id : Nat} {Q : Exit → Act → World → Prop} {a : Act} {W : World} {l : List Oper} (n : Nat) {st : Oper} (hm : P.follows .mixedOrders = true) (hlen : l.length = n + 1) (hst : l[n]? = some st) (hdst : st.dst = none)
    (hB : Region.lexB .any (l.set n (nopOf st)).toArray = true) (hs : Region.sinkB .any l.toArray n = true) (hc : Region.chainB .any l.toArray n = true) (hb : backB l.toArray = true)
    (h : (∀ b o, b < W.heap.size → ∀ p : Regrown, (grow (redrawn W p.d) p.os).cell? ⟨b, o, none⟩ = W.cell? ⟨b, o, none⟩) →
      wpQuiet P (l.set n (nopOf st)).toArray (fun w' => ∃ p : Regrown, w' = grow (redrawn W p.d) p.os) (fun a' => ∀ w', (∃ p : Regrown, w' = grow (redrawn W p.d) p.os) → wpList P l.toArray Q [st] a' w') (l.take n) a) : (Code.region id l.toArray true).wp P Q a W :=
  wp_quiet_tail (C := fun w' => ∃ p : Regrown, w' = grow (redrawn W p.d) p.os) n hm hlen hst hdst hB hs hc hb ⟨⟨W.drawn + 1, #[]⟩, by rw [grow_empty]; rfl⟩ (h (fun b o hb p => grow_cell W b o hb p))

end Go.Proofs.Ytamljoffmkcbnaa
