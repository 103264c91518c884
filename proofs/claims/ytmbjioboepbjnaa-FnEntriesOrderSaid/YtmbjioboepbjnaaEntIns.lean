/- slices.Insert of one entry into a row of the call's own. -/
import Derived.Test.YtmbjioboepbjnaaEntAdd2
import Derived.Test.YtmbjioboepbjnaaRowSet
import Derived.Lib.Overlaps
import Derived.Laws.Externs
import Derived.Shelf.Spec.SlicesInsert
namespace Go.Proofs.Ytmbjioboepbjnaa
open Go.RowKit
set_option linter.unusedVariables false
set_option linter.unusedSimpArgs false

def InsPost (base : Nat) (w : World) (l : List Ent) (e : Ending) (w' : World) : Prop := ∃ v, e = .returned v ∧ Own encE 2 32 base w' v l ∧ Below base w w'

set_option maxHeartbeats 1600000 in
/-- At the end. -/
theorem insert_end (base : Nat) (w : World) (g cap h : Nat) (es : List Ent) (x : Ent) (hO : Own encE 2 32 base w (.slice (some ⟨g, 0, none⟩) es.length cap) es) (hr : RdT encE 2 w (some ⟨h, 0, none⟩) [x]) (hn : es.length ≤ 1048576) (hbw : base ≤ w.heap.size) :
    Calls Try.prog 19 #[.slice (some ⟨g, 0, none⟩) es.length cap, .int .i64 es.length, .slice (some ⟨h, 0, none⟩) 1 1] w (InsPost base w (es ++ [x])) := by
  obtain ⟨A, cap', hv, hcc, hcm, hfrom, hrd⟩ := hO.form
  cases hv
  obtain ⟨hbg, hgl⟩ := hfrom _ rfl
  have HO := Lib.hid hO
  have HR := Lib.hid hr
  have K := Lib.hid (And.intro (show (es.length + 1) * 24 ≤ 140737488355328 by omega) (show es.length + 1 ≤ maxLen by unfold maxLen; omega))
  clear hO hr hfrom hrd
  go_enter Try.func19, Try.ntmps19
  go_wp2_with (at_builtin; refine wpList_app (ys := ([x] : List Ent)) elE rfl _ _ rfl (by rfl) HO.out (by rfl) rfl HR.out oneE K.out.1 K.out.2 hbw ?_; intro v1 w1 hown1 hg1 hat1)
  all_goals exact bodyPost_ret (v := v1) (by simp [results, Try.results19, go_sem]) rfl ⟨_, rfl, hown1, (Below.refl base w).grown hg1 hbw (fun k hk => by cases hk; exact hbg)⟩

/-- 'copy' of elements of several cells. -/
theorem run_copy_sized {P : Program} (w : World) (dT sT ty elem : TypeId) (b o dLen dCap : Nat) (a : Addr) (sLen sCap : Nat) (cs : List Value) (sz m : Nat)
    (hu : P.underlying dT = some (.slice elem)) (hs : (P.info? elem).map (·.size) = some sz) (hm : m = Nat.min sLen dLen) (hn : cs.length = m * sz)
    (hsrc : ∀ j v, cs[j]? = some v → w.cell? (a.add j) = some v) (hc : ∀ j, j < cs.length → (w.cell? ⟨b, o + j, none⟩).isSome = true) (hf : ∀ j, j < cs.length → w.frozen? ⟨b, o + j, none⟩ = false) (h1 : ∀ v ∈ cs, v.oneCell' = true) :
    (Builtin.copy_ #[dT, sT] ty #[.slice (some ⟨b, o, none⟩) dLen dCap, .slice (some a) sLen sCap]).run P w = .ok (goInt m) (w.setCells b o cs) := by
  have hl := run_loadCells_list (P := P) w a cs hsrc
  have hst := run_storeCells_cells (P := P) b o cs 0 w (by simpa using hc) (by simpa using hf) h1
  cases hq : P.info? elem with
  | none => simp [hq] at hs
  | some i =>
    simp [hq] at hs
    subst hs
    subst hm
    rw [hn] at hl
    simp [Builtin.copy_, run_underlying hu, Builtin.lenOf, Builtin.firstCells, sizeOf, typeInfo, hq, hl]
    simp only [Nat.add_zero] at hst
    rw [hst]
    rfl

theorem overlaps_no (w : World) (h g o : Nat) (u0 u1 : Value) (base cap n : Nat) (xs : List Value) (hh : w.heap[h]? = some (.cells #[u0, u1] 32)) (hO : w.ownsRow base 32 2 (.slice (some ⟨g, 0, none⟩) n cap) n xs) (hn : 0 < n) (hne : h ≠ g) (lb cb : Nat) :
    (callFunc 31 #[.slice (some ⟨h, 0, none⟩) 1 1, .slice (some ⟨g, o, none⟩) lb cb]).run Try.prog w = .ok (.value (.bool false)) w := by
  rcases hO.2 with ⟨h', _⟩ | ⟨g', cap', cur, h', hb, hg, hnc, hcm, hcs, htake⟩
  · simp at h'
  · simp only [Value.slice.injEq, Option.some.injEq, Addr.mk.injEq, and_true, true_and] at h'
    obtain ⟨rfl, rfl⟩ := h'
    have hz : ∀ w, (Go.sizeOf 32).run Try.prog w = .ok 2 w := fun w => by kernel_rfl
    have hsa : w.shape? h = some (32, 2) := by simp [World.shape?, hh]
    have hsb : w.shape? g = some (32, cur.size) := by simp [World.shape?, hg]
    have hkB : cur.size ≠ 0 := by rw [hcs]; omega
    have hfa : w.frozen? ⟨h, 0, none⟩ = false := by simp [World.frozen?, hh]
    have hfe : w.frozen? ⟨h, 2, none⟩ = false := by simp [World.frozen?, hh]
    rw [run_callFunc_extern Try.func31 (by kernel_rfl) (by kernel_rfl) (by kernel_rfl) (e := Extern.SlicesOverlaps.overlaps #[23, 23] #[4]) (by kernel_rfl),
      Lib.run_overlaps_apart w 23 4 32 Try.underlying23 2 hz ⟨h, 0, none⟩ ⟨g, o, none⟩ 1 1 lb cb hne 32 32 2 cur.size hsa hsb hkB hfa hfe]
    rfl

theorem below_setCells_ {B g : Nat} {a : World} (hg : B ≤ g) : ∀ (vs : List Value) (o : Nat) (w : World), Below B a w → Below B a (w.setCells g o vs)
  | [], _, _, h => h
  | v :: r, o, w, h => below_setCells_ hg r (o + 1) _ (h.setCell (p := ⟨g, o, none⟩) hg v)

theorem size_entry : (Try.prog.info? 32).map (·.size) = some 2 := by kernel_rfl

set_option maxHeartbeats 4000000 in
/-- In the middle, where there is room. -/
theorem insert_shift (base : Nat) (w : World) (g cap h : Nat) (es : List Ent) (x : Ent) (i : Nat) (hO : Own encE 2 32 base w (.slice (some ⟨g, 0, none⟩) es.length cap) es) (hh : w.heap[h]? = some (.cells #[.string x.name, .int .i64 x.id] 32)) (hne : h ≠ g) (hi : i < es.length) (hroom : es.length + 1 ≤ cap) (hn : es.length ≤ 1048576) (hbw : base ≤ w.heap.size) :
    Calls Try.prog 19 #[.slice (some ⟨g, 0, none⟩) es.length cap, .int .i64 i, .slice (some ⟨h, 0, none⟩) 1 1] w (InsPost base w (es.take i ++ x :: es.drop i)) := by
  obtain ⟨A, cap', hv, hcc, hcm, hfrom, _⟩ := hO.form
  cases hv
  obtain ⟨hbg, hgl⟩ := hfrom _ rfl
  have hov : ∀ lb cb, (callFunc 31 #[.slice (some ⟨h, 0, none⟩) 1 1, .slice (some ⟨g, (i + 1) * 2, none⟩) lb cb]).run Try.prog w = .ok (.value (.bool false)) w := fun lb cb => overlaps_no w h g _ _ _ base cap es.length _ hh hO (by omega) hne lb cb
  obtain ⟨ys, hys, hrow⟩ := ownsRow_longer hO hroom
  have hwl : w.drew.ownsRow base 32 2 (.slice (some ⟨g, 0, none⟩) (es.length + 1) cap) (es.length + 1) (cellsOf encE 2 es ++ ys) := hrow
  have hdl : (cellsOf encE 2 (es.drop i)).length = (es.length - i) * 2 := by rw [cellsOf_length, List.length_drop]
  have hlen : (cellsOf encE 2 es ++ ys).length = (es.length + 1) * 2 := hwl.1
  have some_ : ∀ (W : World) (zs : List Value), W.ownsRow base 32 2 (.slice (some ⟨g, 0, none⟩) (es.length + 1) cap) (es.length + 1) zs → ∀ j, j < (es.length + 1) * 2 → (W.cell? ⟨g, j, none⟩).isSome = true := fun W zs hz j hj => by
    rw [hz.cellAt j hj, List.getElem?_eq_getElem (by rw [hz.1]; exact hj)]
    rfl
  have hcp1 : ∀ ty dl dc sl sc, dl = es.length - i → sl = es.length + 1 - i → (Builtin.copy_ #[23, 23] ty #[.slice (some ⟨g, (i + 1) * 2, none⟩) dl dc, .slice (some ⟨g, i * 2, none⟩) sl sc]).run Try.prog w.drew = .ok (goInt ((es.length - i : Nat) : Int)) (w.drew.setCells g ((i + 1) * 2) (cellsOf encE 2 (es.drop i))) := fun ty dl dc sl sc e1 e2 =>
    run_copy_sized w.drew _ _ ty 32 g ((i + 1) * 2) dl dc ⟨g, i * 2, none⟩ sl sc (cellsOf encE 2 (es.drop i)) 2 (es.length - i) Try.underlying23 size_entry (by rw [e1, e2]; simp only [Nat.min_def]; split <;> omega) hdl
      (fun j v hj => by
        have hj' : j < (es.length - i) * 2 := by rw [← hdl]; exact (List.getElem?_eq_some_iff.1 hj).1
        rw [addr_add, hwl.cellAt _ (by omega), List.getElem?_append_left (by rw [cellsOf_length]; omega)]
        rw [← cellsOf_drop, List.getElem?_drop] at hj
        exact hj)
      (fun j hj => some_ _ _ hwl _ (by rw [hdl] at hj; omega)) (fun j _ => hwl.frozenAt _) (oneC_cells oneE _)
  obtain ⟨W1, hW1⟩ : ∃ W1, W1 = w.drew.setCells g ((i + 1) * 2) (cellsOf encE 2 (es.drop i)) := ⟨_, rfl⟩
  have hrow1 := ownsRow_setCells (cellsOf encE 2 (es.drop i)) ((i + 1) * 2) _ _ hwl
  rw [← hW1] at hrow1 hcp1
  have hx0 : W1.cell? ⟨h, 0, none⟩ = some (.string x.name) := by
    rw [hW1, World.cell?_setCells_out g _ _ _ _ (fun e _ => absurd e hne)]
    show w.cell? _ = _
    unfold World.cell?
    simp only [hh]
    rfl
  have hx1 : W1.cell? ⟨h, 1, none⟩ = some (.int .i64 x.id) := by
    rw [hW1, World.cell?_setCells_out g _ _ _ _ (fun e _ => absurd e hne)]
    show w.cell? _ = _
    unfold World.cell?
    simp only [hh]
    rfl
  have hcp2 : ∀ ty dl dc, dl = es.length + 1 - i → (Builtin.copy_ #[23, 23] ty #[.slice (some ⟨g, i * 2, none⟩) dl dc, .slice (some ⟨h, 0, none⟩) 1 1]).run Try.prog W1 = .ok (goInt ((1 : Nat) : Int)) (W1.setCells g (i * 2) (cellsOf encE 2 [x])) := fun ty dl dc e1 =>
    run_copy_sized W1 _ _ ty 32 g (i * 2) dl dc ⟨h, 0, none⟩ 1 1 (cellsOf encE 2 [x]) 2 1 Try.underlying23 size_entry (by rw [e1]; simp only [Nat.min_def]; split <;> omega) (by rw [cellsOf_length]; rfl)
      (fun j v hj => by
        have hj' : j < 2 := by
          have := (List.getElem?_eq_some_iff.1 hj).1
          rwa [cellsOf_length] at this
        rw [addr_add]
        rcases (show j = 0 ∨ j = 1 by omega) with rfl | rfl
        · rw [← hj]; exact hx0
        · rw [← hj]; exact hx1)
      (fun j hj => some_ _ _ hrow1 _ (by rw [cellsOf_length] at hj; simp at hj; omega)) (fun j _ => hrow1.frozenAt _) (oneC_cells oneE _)
  have hrow2 := ownsRow_setCells (cellsOf encE 2 [x]) (i * 2) _ _ hrow1
  rw [setL_insert es x i (by omega) ys hys] at hrow2
  have HX := Lib.hid (show Own encE 2 32 base (W1.setCells g (i * 2) (cellsOf encE 2 [x])) (.slice (some ⟨g, 0, none⟩) (es.length + 1) cap) (es.take i ++ x :: es.drop i) by
    have e : (es.take i ++ x :: es.drop i).length = es.length + 1 := by simp; omega
    unfold Own
    rw [e]
    exact hrow2)
  have HB := Lib.hid (show Below base w (W1.setCells g (i * 2) (cellsOf encE 2 [x])) by
    rw [hW1]
    exact below_setCells_ hbg _ _ _ (below_setCells_ hbg _ _ _ ((Below.refl base w).drew)))
  have C1 := Lib.hid hcp1
  have C2 := Lib.hid hcp2
  clear hO hrow hwl hdl hlen some_ hcp1 hrow1 hx0 hx1 hcp2 hrow2 hfrom hW1 hh
  generalize hN : es.length = n at *
  have k1 : ¬ ((i : Int) = (n : Int)) := by omega
  have k2 : ((i : Int) == (n : Int)) = false := by simpa using k1
  have k3 : IntKind.i64.wrap ((n : Int) + 1) = (n : Int) + 1 := IntWalk.i64_in _ (by omega)
  have k4 : IntKind.i64.wrap ((i : Int) + 1) = (i : Int) + 1 := IntWalk.i64_in _ (by omega)
  have k5 : (0 : Int) ≤ (i : Int) + 1 := by omega
  have k6 : ((i : Int) + 1).toNat = i + 1 := by omega
  have k7 : (0 : Int) ≤ (n : Int) + 1 := by omega
  have k8 : ((n : Int) + 1).toNat = n + 1 := by omega
  have k9 : ¬ cap = i + 1 := by omega
  have k10 : ¬ cap = i := by omega
  have k11 : i ≤ n := by omega
  have k12 : ¬ cap < n + 1 := by omega
  have k13 : (n : Int) + 1 ≤ (cap : Int) := by omega
  have k14 : (i : Int) + 1 ≤ (n : Int) + 1 := by omega
  have k15 : (i : Int) ≤ (n : Int) + 1 := by omega
  clear k1
  have c1 := C1.out 3 (n - i) (cap - (i + 1)) (n + 1 - i) (cap - i) rfl rfl
  have c2 := C2.out 3 (n + 1 - i) (cap - i) rfl
  go_enter Try.func19, Try.ntmps19
  go_wp2_with (simp only [hov])
  go_region_law (fail)
  all_goals go_wp2_with fail
  all_goals exact bodyPost_ret (v := .slice (some ⟨g, 0, none⟩) (n + 1) cap) (by simp [results, Try.results19, go_sem]) rfl ⟨_, rfl, HX.out, HB.out⟩

end Go.Proofs.Ytmbjioboepbjnaa
