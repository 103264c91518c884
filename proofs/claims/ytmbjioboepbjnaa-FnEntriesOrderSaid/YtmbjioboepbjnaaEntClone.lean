/- slices.Clone and slices.Delete at entries. -/
import Derived.Test.YtmbjioboepbjnaaEntLess
import Derived.Test.YtmbjioboepbjnaaEntHelp
import Derived.Lib.SliceRun
import Derived.Laws.OwnMore
import Derived.Laws.IdiomCopy
namespace Go.Proofs.Ytmbjioboepbjnaa
open Go.RowKit
set_option linter.unusedVariables false
set_option linter.unusedSimpArgs false

set_option maxHeartbeats 800000 in
theorem clone_any (w : World) (b off cap : Nat) (es : List Ent) (h : RdT encE 2 w (some ⟨b, off, none⟩) es) (hn : es.length ≤ 1048576) :
    Calls Try.prog 20 #[.slice (some ⟨b, off, none⟩) es.length cap] w (OwnPost w es) := by
  have HR := Lib.hid h
  have k7 : (0 + es.length) * 24 ≤ 140737488355328 := by omega
  have k8 : 0 + es.length ≤ maxLen := by unfold maxLen; omega
  have K := Lib.hid (And.intro k7 k8)
  clear h k7 k8
  have hE := Lib.hid (show Own encE 2 32 w.heap.size (w.alloc (.cells #[] 32)) (.slice (some ⟨w.heap.size, 0, none⟩) 0 0) ([] : List Ent) from Own.empty (Nat.le_refl _))
  have hBa : Below w.heap.size w (w.alloc (.cells #[] 32)) := ((Below.refl _ _).alloc (Nat.le_refl _) _)
  have hRa := Lib.hid (HR.out.below hBa)
  have hBH := Lib.hid hBa
  have q26 : ∀ (w : World) (a : Option Addr) (n c n' c' : Nat), (binOp .eql 23 (.slice a n c) (.slice none n' c')).run Try.prog w = .ok (.bool a.isNone) w := fun w a n c n' c' => Lib.run_eql_slice_nil w _ _ a n c n' c' Try.underlying23
  go_enter Try.func20, Try.ntmps20
  go_wp2_with (at_builtin; refine wpList_app elE rfl _ _ rfl (by rfl) hE.out (by rfl) rfl hRa.out oneE K.out.1 K.out.2 hBH.out.size ?_; intro v1 w1 hown1 hg1 hat1; have hB1 := Lib.hid (below_grown hBH.out hE.out hg1))
  exact bodyPost_ret (v := v1) (by simp [results, Try.results20, go_sem]) rfl ⟨_, rfl, hown1, hB1.out⟩

theorem step_run {ops : Array Oper} {o : Oper} {a : Act} {w w' : World} {K : Act → World → Prop} {Q : Exit → Act → World → Prop} {F : Prop} (hgd : o.guard = none) (s x : Operand) (t : TypeId)
    (ho : o.op = .call { callee := .builtin .append, args := #[s, x], argTypes := #[t, t] })
    {vs vx r : Value} (hs : a.eval s = vs) (hx : a.eval x = vx) (hrun : (Builtin.append_ #[t, t] o.type #[vs, vx]).run Try.prog w = .ok r w') (h : K (a.put o.dst r) w') :
    if Region.wanted o (yielded ops a.tmps) = true then Oper.wp Try.prog o a w K Q else F := by
  have hw : Region.wanted o (yielded ops a.tmps) = true := by simp [Region.wanted, hgd]
  rw [if_pos hw]
  unfold Oper.wp execOp
  simp only [ho, resolve, invoke, builtin, Sem.run_bind, Sem.run_pure, Result.andThen_ok, List.map_toArray, List.map_cons, List.map_nil, hs, hx, hrun]
  exact h

/-- The head of a row of the call's own. -/
theorem ownsRow_take {w : World} {base T sz g n cap : Nat} {xs : List Value} (h : w.ownsRow base T sz (.slice (some ⟨g, 0, none⟩) n cap) n xs) (k : Nat) (hk : k ≤ n) : w.ownsRow base T sz (.slice (some ⟨g, 0, none⟩) k cap) k (xs.take (k * sz)) := by
  have hl := h.1
  have hks : k * sz ≤ n * sz := Nat.mul_le_mul_right _ hk
  rcases h.2 with ⟨h', _⟩ | ⟨g', cap', cur, h', hb, hg, hnc, hcm, hcs, htake⟩
  · simp at h'
  · simp only [Value.slice.injEq, Option.some.injEq, Addr.mk.injEq, and_true, true_and] at h'
    obtain ⟨rfl, rfl⟩ := h'
    refine ⟨by rw [List.length_take, hl, Nat.min_eq_left hks], .inr ⟨g, cap, cur, rfl, hb, hg, by omega, hcm, hcs, ?_⟩⟩
    rw [← htake, List.take_take, Nat.min_eq_left hks]
/-- Stores behind the row's length: the row stays. -/
theorem ownsRow_behind {base T sz g n cap : Nat} {xs : List Value} : ∀ (vs : List Value) (o : Nat) (w : World), w.ownsRow base T sz (.slice (some ⟨g, 0, none⟩) n cap) n xs → n * sz ≤ o → (w.setCells g o vs).ownsRow base T sz (.slice (some ⟨g, 0, none⟩) n cap) n xs
  | [], _, _, h, _ => h
  | v :: r, o, w, h, ho => by
    have h1 := (h.stored o v).1
    rw [List.set_eq_of_length_le (by rw [h.1]; exact ho)] at h1
    exact ownsRow_behind r (o + 1) _ h1 (by omega)

theorem run_clear_cells {P : Program} (w : World) (t e ty : TypeId) (z : Value) (ht : P.underlying t = some (.slice e)) (hv : ∀ w, (zeroValue e).run P w = .ok z w) (zs : List Value) (b o n c : Nat) (hn : 0 < n) (hzc : (Builtin.zeroCells z.cells n).toList = zs) (h1 : ∀ v ∈ zs, v.oneCell' = true)
    (hc : ∀ j, j < zs.length → (w.cell? ⟨b, o + j, none⟩).isSome = true) (hf : ∀ j, j < zs.length → w.frozen? ⟨b, o + j, none⟩ = false) :
    (Builtin.clear_ #[t] ty #[.slice (some ⟨b, o, none⟩) n c]).run P w = .ok (.tuple #[]) (w.setCells b o zs) := by
  have hst := run_storeCells_cells (P := P) b o zs 0 w (by simpa using hc) (by simpa using hf) h1
  simp only [Nat.add_zero] at hst
  obtain ⟨m, rfl⟩ : ∃ m, n = m + 1 := ⟨n - 1, by omega⟩
  simp [Builtin.clear_, run_underlying ht, hv, hzc, hst]

def DelPost (base g cap : Nat) (w : World) (es : List Ent) (i : Nat) (e : Ending) (w' : World) : Prop := e = .returned (.slice (some ⟨g, 0, none⟩) (es.length - 1) cap) ∧ Own encE 2 32 base w' (.slice (some ⟨g, 0, none⟩) (es.length - 1) cap) (es.take i ++ es.drop (i + 1)) ∧ Below base w w'

set_option maxHeartbeats 1600000 in
theorem delete_any (base : Nat) (w : World) (g cap : Nat) (es : List Ent) (i : Nat) (h : Own encE 2 32 base w (.slice (some ⟨g, 0, none⟩) es.length cap) es) (hn : es.length ≤ 1048576) (hi : i < es.length) (hbw : base ≤ w.heap.size) :
    Calls Try.prog 24 #[.slice (some ⟨g, 0, none⟩) es.length cap, .int .i64 i, .int .i64 ((i : Int) + 1)] w (DelPost base g cap w es i) := by
  obtain ⟨A, cap', hv, hcc, hcm, hfrom, hrd⟩ := h.form
  cases hv
  obtain ⟨hbg, hgl⟩ := hfrom _ rfl
  -- the row of the first i, and the cells behind
  have hd : w.drew.ownsRow base 32 2 (.slice (some ⟨g, 0, none⟩) es.length cap) es.length (cellsOf encE 2 es) := h
  have hrow := ownsRow_take hd i (by omega)
  rw [cellsOf_take] at hrow
  have hlen : (cellsOf encE 2 (es.drop (i + 1))).length = (es.length - (i + 1)) * 2 := by rw [cellsOf_length, List.length_drop]
  obtain ⟨i0, hi0, hz0, hz1, hz2⟩ := info_parts info_entry
  obtain ⟨A, hA, hsrc⟩ : ∃ A : Addr, (if cap = i + 1 then some (⟨g, 0, none⟩ : Addr) else some ⟨g, (i + 1) * 2, none⟩) = some A ∧ Hid (∀ t u, (cellsOf encE 2 (es.drop (i + 1)))[t]? = some u → w.drew.cell? (A.add t) = some u) := by
    by_cases hc : cap = i + 1
    · refine ⟨⟨g, 0, none⟩, by simp [hc], fun t u hu => ?_⟩
      rw [List.drop_of_length_le (by omega)] at hu
      simp [cellsOf] at hu
    · refine ⟨⟨g, (i + 1) * 2, none⟩, by simp [hc], fun t u hu => ?_⟩
      have ht : t < (es.length - (i + 1)) * 2 := by
        have := (List.getElem?_eq_some_iff.1 hu).1
        rwa [hlen] at this
      rw [← cellsOf_drop, List.getElem?_drop] at hu
      rw [addr_add, World.ownsRow.cellAt hd _ (by omega)]
      exact hu
  obtain ⟨W1, hrun, hown1, hgrow1⟩ := run_append_fits (P := Try.prog) w.drew base 23 23 32 i0 2 Try.underlying23 hi0 hz1 g i cap _ hrow A (es.length - (i + 1)) (cap - (i + 1)) _ hlen hsrc.out (oneC_cells oneE _) (by omega)
  obtain ⟨m, hm⟩ : ∃ m, es.length = m + 1 := ⟨es.length - 1, by omega⟩
  have e1 : i + (es.length - (i + 1)) = m := by omega
  rw [e1] at hrun hown1
  have e2 : es.length - (i + 1) = m - i := by omega
  rw [e2] at hrun
  have HX : Own encE 2 32 base W1 (.slice (some ⟨g, 0, none⟩) m cap) (es.take i ++ es.drop (i + 1)) := by
    have e : (es.take i ++ es.drop (i + 1)).length = m := by simp; omega
    unfold Own
    rw [e, cellsOf_append]
    exact hown1
  have hwhole : ∀ j, j < 2 → (W1.cell? ⟨g, m * 2 + j, none⟩).isSome = true := by
    intro j hj
    rcases hown1.2 with ⟨h', _⟩ | ⟨g', cap', cur, h', _, hg, _, _, hcs, _⟩
    · simp at h'
    · simp only [Value.slice.injEq, Option.some.injEq, Addr.mk.injEq, and_true, true_and] at h'
      obtain ⟨rfl, rfl⟩ := h'
      have : m * 2 + j < cur.size := by rw [hcs]; omega
      simp [World.cell?, hg, this]
  have v39 : ∀ w, (zeroValue 32).run Try.prog w = .ok (.agg #[.string ⟨#[]⟩, .int .i64 0]) w := fun w => by kernel_rfl
  have hcl : ∀ ty, (Builtin.clear_ #[23] ty #[.slice (some ⟨g, m * 2, none⟩) 1 (cap - m)]).run Try.prog W1 = .ok (.tuple #[]) (W1.setCells g (m * 2) [.string ⟨#[]⟩, .int .i64 0]) := fun ty =>
    run_clear_cells W1 _ _ ty _ Try.underlying23 v39 _ g (m * 2) 1 _ (by omega) (by simp [Builtin.zeroCells, Value.cells, List.range_succ]) (by simp [Value.oneCell']) hwhole (fun j _ => hown1.frozenAt _)
  have HB := Lib.hid (show Below base w (W1.setCells g (m * 2) [.string ⟨#[]⟩, .int .i64 0]) from ((((Below.refl base w).drew).grown hgrow1 hbw (fun k hk => by cases hk; exact hbg)).setCell (p := ⟨g, m * 2, none⟩) hbg _).setCell (p := ⟨g, m * 2 + 1, none⟩) hbg _)
  have HO := Lib.hid (show Own encE 2 32 base (W1.setCells g (m * 2) [.string ⟨#[]⟩, .int .i64 0]) (.slice (some ⟨g, 0, none⟩) m cap) (es.take i ++ es.drop (i + 1)) by
    have e : (es.take i ++ es.drop (i + 1)).length = m := by simp; omega
    unfold Own at HX ⊢
    rw [e] at HX ⊢
    exact ownsRow_behind _ _ _ HX (Nat.le_refl _))
  have HR := Lib.hid hrun
  have k1 : i ≤ cap := by omega
  have k2 : i + 1 ≤ cap := by omega
  have k3 : i ≤ m := by omega
  have k4 : m + 1 ≤ cap := by omega
  have k5 : ((i : Int) == (i : Int) + 1) = false := by simp; omega
  have k6 : (0 : Int) ≤ (i : Int) + 1 := by omega
  have k7 : ((i : Int) + 1).toNat = i + 1 := by omega
  have k8 : (i : Int) ≤ (i : Int) + 1 := by omega
  have k9 : (i : Int) + 1 ≤ (m : Int) + 1 := by omega
  have k10 : ¬ cap = m := by omega
  have e3 : es.length - 1 = m := by omega
  unfold DelPost
  rw [e3]
  generalize hG : es.take i ++ es.drop (i + 1) = ys at HO HX
  rw [hm]
  clear hd hrow hlen hsrc hown1 hgrow1 HX hwhole hrd h hcc hcm hfrom e1 e2 e3 hrun v39
  go_enter Try.func24, Try.ntmps24
  go_wp2_with fail
  go_region_law (refine step_run rfl (.tmp 22) (.tmp 25) 23 rfl rfl rfl HR.out ?_)
  all_goals
    go_wp2_with fail
    go_ret
    exact ⟨rfl, HO.out, HB.out⟩

end Go.Proofs.Ytmbjioboepbjnaa
