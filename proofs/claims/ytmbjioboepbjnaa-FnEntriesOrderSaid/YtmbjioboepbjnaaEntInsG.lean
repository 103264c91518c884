/- slices.Insert of one entry in the middle, no room: a new row. -/
import Derived.Test.YtmbjioboepbjnaaEntIns
import Derived.Test.YtmbjioboepbjnaaRowGrow
import Derived.Lib.AppendZerosOnto
import Derived.Shelf.Spec.SlicesInsertGrow
namespace Go.Proofs.Ytmbjioboepbjnaa
open Go.RowKit
set_option linter.unusedVariables false
set_option linter.unusedSimpArgs false

set_option maxHeartbeats 4000000 in
theorem insert_grow (base : Nat) (w : World) (g cap h : Nat) (es : List Ent) (x : Ent) (i : Nat) (hO : Own encE 2 32 base w (.slice (some ⟨g, 0, none⟩) es.length cap) es) (hh : w.heap[h]? = some (.cells #[.string x.name, .int .i64 x.id] 32)) (hi : i < es.length) (hroom : cap < es.length + 1) (hn : es.length ≤ 1048576) (hbw : base ≤ w.heap.size) :
    Calls Try.prog 19 #[.slice (some ⟨g, 0, none⟩) es.length cap, .int .i64 i, .slice (some ⟨h, 0, none⟩) 1 1] w (InsPost base w (es.take i ++ x :: es.drop i)) := by
  obtain ⟨A, cap', hv, hcc, hcm, hfrom, _⟩ := hO.form
  cases hv
  obtain ⟨hbg, hgl⟩ := hfrom _ rfl
  obtain rfl : cap = es.length := by omega
  have hhl : h < w.heap.size := by
    rcases Nat.lt_or_ge h w.heap.size with h' | h'
    · exact h'
    · rw [Array.getElem?_eq_none h'] at hh; cases hh
  obtain ⟨i0, hi0, hz0, hz1, hz2⟩ := info_parts info_entry
  have hrow : w.drew.ownsRow base 32 2 (.slice (some ⟨g, 0, none⟩) es.length es.length) es.length (cellsOf encE 2 es) := hO
  have hold : (Builtin.firstCells i0.size i (.slice (some ⟨g, 0, none⟩) i es.length)).run Try.prog w.drew = .ok (cellsOf encE 2 (es.take i)).toArray w.drew := by
    rw [hz1]
    exact run_firstCells_some w.drew 2 i ⟨g, 0, none⟩ i es.length (cellsOf encE 2 (es.take i)) (by rw [cellsOf_length, List.length_take]; congr 1; omega) (fun j v hj => by
      have hj' : j < i * 2 := by
        have := (List.getElem?_eq_some_iff.1 hj).1
        rw [cellsOf_length, List.length_take] at this
        have : min i es.length = i := by omega
        omega
      rw [addr_add, hrow.cellAt _ (by omega), ← hj, ← cellsOf_take, List.getElem?_take, if_pos hj', Nat.zero_add])
  have hkk : (es.length : Int) + 1 - (i : Int) = ((es.length + 1 - i : Nat) : Int) := by omega
  have hik : i + (es.length + 1 - i) = es.length + 1 := by omega
  have hrz : ∀ ty, ∃ G ROW, es.length + 1 ≤ G ∧ (Builtin.append_ #[23, 3] ty #[.slice (some ⟨g, 0, none⟩) i es.length, .int .i64 ((es.length : Int) + 1 - (i : Int))]).run Try.prog w = .ok (.slice (some ⟨w.heap.size, 0, none⟩) (es.length + 1) G) (w.drew.alloc (.cells ROW 32)) ∧ ROW.size = G * 2 ∧ G ≤ maxLen ∧ ROW.toList.take (i * 2) = cellsOf encE 2 (es.take i) := fun ty => by
    have h := Lib.run_append_grow_zeros w 23 3 ty 32 i0 _ .i64 .i64 Try.underlying23 Try.underlying3 hi0 hz0 (some ⟨g, 0, none⟩) i es.length (cellsOf encE 2 (es.take i)) hold (es.length + 1 - i) (by omega) (by omega) (by omega) (by omega) (by rw [hz2]; omega) (by rw [hz2, hik]; exact growslice_fits (by omega) (by omega))
    rw [hik] at h
    rw [hkk]
    refine ⟨_, _, grownCap_ge w _ _ _, h, ?_, ?_, ?_⟩
    · have hG := grownCap_ge w (es.length + 1) es.length 32
      have ht : (cellsOf encE 2 (es.take i)).length = i * 2 := by rw [cellsOf_length, List.length_take]; congr 1; omega
      simp [Builtin.zeroCells, Value.cells, ht]
      omega
    · exact grownCap_le_maxLen w (es.length + 1) es.length 32 (by unfold maxLen; omega)
    · have ht : (cellsOf encE 2 (es.take i)).length = i * 2 := by rw [cellsOf_length, List.length_take]; congr 1; omega
      rw [Array.toList_append, Array.toList_append, List.append_assoc, List.take_append_of_le_length (by simp [ht]), List.take_of_length_le (by simp [ht])]
  obtain ⟨G, ROW, hG, hrun, hsz, hGm, htk⟩ := hrz 23
  obtain ⟨W1, hW1⟩ : ∃ W1, W1 = w.drew.alloc (.cells ROW 32) := ⟨_, rfl⟩
  rw [← hW1] at hrun
  have hRl : ROW.toList.length = G * 2 := by simpa using hsz
  have hrow1 : W1.ownsRow base 32 2 (.slice (some ⟨w.heap.size, 0, none⟩) (es.length + 1) G) (es.length + 1) (ROW.toList.take ((es.length + 1) * 2)) :=
    ⟨by rw [List.length_take, hRl]; omega, .inr ⟨w.heap.size, G, ROW, rfl, hbw, by rw [hW1]; exact heap_alloc_new w.drew _, hG, hGm, hsz, rfl⟩⟩
  have some_ : ∀ (W : World) (zs : List Value), W.ownsRow base 32 2 (.slice (some ⟨w.heap.size, 0, none⟩) (es.length + 1) G) (es.length + 1) zs → ∀ j, j < (es.length + 1) * 2 → (W.cell? ⟨w.heap.size, j, none⟩).isSome = true := fun W zs hz j hj => by
    rw [hz.cellAt j hj, List.getElem?_eq_getElem (by rw [hz.1]; exact hj)]
    rfl
  have hB1 : Below w.heap.size w W1 := by rw [hW1]; exact ((Below.refl _ _).drew).alloc (Nat.le_refl _) _
  have hx0 : W1.cell? ⟨h, 0, none⟩ = some (.string x.name) := by
    rw [(bcell hB1).1 _ _ hhl]
    unfold World.cell?
    simp only [hh]
    rfl
  have hx1 : W1.cell? ⟨h, 1, none⟩ = some (.int .i64 x.id) := by
    rw [(bcell hB1).1 _ _ hhl]
    unfold World.cell?
    simp only [hh]
    rfl
  have hcpA : ∀ ty dl dc, dl = es.length + 1 - i → (Builtin.copy_ #[23, 23] ty #[.slice (some ⟨w.heap.size, i * 2, none⟩) dl dc, .slice (some ⟨h, 0, none⟩) 1 1]).run Try.prog W1 = .ok (goInt ((1 : Nat) : Int)) (W1.setCells w.heap.size (i * 2) (cellsOf encE 2 [x])) := fun ty dl dc e1 =>
    run_copy_sized W1 _ _ ty 32 w.heap.size (i * 2) dl dc ⟨h, 0, none⟩ 1 1 (cellsOf encE 2 [x]) 2 1 Try.underlying23 size_entry (by rw [e1]; simp only [Nat.min_def]; split <;> omega) (by rw [cellsOf_length]; rfl)
      (fun j v hj => by
        have hj' : j < 2 := by
          have := (List.getElem?_eq_some_iff.1 hj).1
          rwa [cellsOf_length] at this
        rw [addr_add]
        rcases (show j = 0 ∨ j = 1 by omega) with rfl | rfl
        · rw [← hj]; exact hx0
        · rw [← hj]; exact hx1)
      (fun j hj => some_ _ _ hrow1 _ (by rw [cellsOf_length] at hj; simp at hj; omega)) (fun j _ => hrow1.frozenAt _) (oneC_cells oneE _)
  have hdl : (cellsOf encE 2 (es.drop i)).length = (es.length - i) * 2 := by rw [cellsOf_length, List.length_drop]
  have hrow2' := ownsRow_setCells (cellsOf encE 2 [x]) (i * 2) _ _ hrow1
  have hrow2 : (W1.setCells w.heap.size (i * 2) (cellsOf encE 2 [x])).drew.ownsRow base 32 2 (.slice (some ⟨w.heap.size, 0, none⟩) (es.length + 1) G) (es.length + 1) _ := hrow2'
  have hg2 : ∀ j, (W1.setCells w.heap.size (i * 2) (cellsOf encE 2 [x])).drew.cell? ⟨g, j, none⟩ = w.cell? ⟨g, j, none⟩ := fun j => by
    have hgl' : g < w.heap.size := hgl
    show (W1.setCells w.heap.size (i * 2) (cellsOf encE 2 [x])).cell? _ = _
    rw [World.cell?_setCells_out w.heap.size _ _ _ ⟨g, j, none⟩ (fun e _ => absurd e (Nat.ne_of_lt hgl')), (bcell hB1).1 _ _ hgl']
  have hcpB : ∀ ty dl dc sl sc, dl = es.length - i → sl = es.length - i → (Builtin.copy_ #[23, 23] ty #[.slice (some ⟨w.heap.size, (i + 1) * 2, none⟩) dl dc, .slice (some ⟨g, i * 2, none⟩) sl sc]).run Try.prog (W1.setCells w.heap.size (i * 2) (cellsOf encE 2 [x])).drew = .ok (goInt ((es.length - i : Nat) : Int)) ((W1.setCells w.heap.size (i * 2) (cellsOf encE 2 [x])).drew.setCells w.heap.size ((i + 1) * 2) (cellsOf encE 2 (es.drop i))) := fun ty dl dc sl sc e1 e2 =>
    run_copy_sized _ _ _ ty 32 w.heap.size ((i + 1) * 2) dl dc ⟨g, i * 2, none⟩ sl sc (cellsOf encE 2 (es.drop i)) 2 (es.length - i) Try.underlying23 size_entry (by rw [e1, e2]; simp only [Nat.min_def]; split <;> omega) hdl
      (fun j v hj => by
        have hj' : j < (es.length - i) * 2 := by rw [← hdl]; exact (List.getElem?_eq_some_iff.1 hj).1
        rw [addr_add, hg2, World.ownsRow.cellAt hO _ (by omega)]
        rw [← cellsOf_drop, List.getElem?_drop] at hj
        exact hj)
      (fun j hj => some_ _ _ hrow2 _ (by rw [hdl] at hj; omega)) (fun j _ => hrow2.frozenAt _) (oneC_cells oneE _)
  have hrow3 := ownsRow_setCells (cellsOf encE 2 (es.drop i)) ((i + 1) * 2) _ _ hrow2
  rw [setL_grow es x i (by omega) _ (by rw [List.length_take, hRl]; omega) (by rw [List.take_take, Nat.min_eq_left (by omega), htk])] at hrow3
  obtain ⟨W3, hW3⟩ : ∃ W3, W3 = (W1.setCells w.heap.size (i * 2) (cellsOf encE 2 [x])).drew.setCells w.heap.size ((i + 1) * 2) (cellsOf encE 2 (es.drop i)) := ⟨_, rfl⟩
  rw [← hW3] at hrow3 hcpB
  have HX := Lib.hid (show Own encE 2 32 base W3 (.slice (some ⟨w.heap.size, 0, none⟩) (es.length + 1) G) (es.take i ++ x :: es.drop i) by
    have e : (es.take i ++ x :: es.drop i).length = es.length + 1 := by simp; omega
    unfold Own
    rw [e]
    exact hrow3)
  have HB := Lib.hid (show Below base w W3 by
    rw [hW3]
    exact below_setCells_ hbw _ _ _ ((below_setCells_ hbw _ _ _ (hB1.mono hbw)).drew))
  have C1 := Lib.hid hcpA
  have C2 := Lib.hid hcpB
  have hG63 : G ≤ 9223372036854775807 := by unfold maxLen at hGm; omega
  clear hO hrow hrow1 hrow2 hrow2' hrow3 hdl some_ hcpA hcpB hx0 hx1 hg2 hB1 hW3 hRl hfrom hold hrz hsz htk hh hW1
  generalize hN : es.length = n at *
  have k1 : ¬ ((i : Int) = (n : Int)) := by omega
  have k2 : ((i : Int) == (n : Int)) = false := by simpa using k1
  have k3 : IntKind.i64.wrap ((n : Int) + 1) = (n : Int) + 1 := IntWalk.i64_in _ (by omega)
  have k4 : IntKind.i64.wrap ((i : Int) + 1) = (i : Int) + 1 := IntWalk.i64_in _ (by omega)
  have k5 : IntKind.i64.wrap ((n : Int) + 1 - (i : Int)) = (n : Int) + 1 - (i : Int) := IntWalk.i64_in _ (by omega)
  have k6 : ((i : Int) + 1).toNat = i + 1 := by omega
  have k7 : (0 : Int) ≤ (i : Int) + 1 := by omega
  have k8 : (i : Int) + 1 ≤ (n : Int) + 1 := by omega
  have k9 : ¬ G = i + 1 := by omega
  have k10 : ¬ G = i := by omega
  have k11 : i ≤ n := by omega
  have k12 : ¬ n = i := by omega
  have k13 : (i : Int) ≤ (n : Int) + 1 := by omega
  have k14 : i ≤ n + 1 := by omega
  have k15 : i + 1 ≤ n + 1 := by omega
  have CR := Lib.hid hrun
  clear k1 hkk hik hrun
  have c1 := C1.out 3 (n + 1 - i) (G - i) rfl
  have c2 := C2.out 3 (n - i) (G - (i + 1)) (n - i) (n - i) rfl rfl
  go_enter Try.func19, Try.ntmps19
  go_wp2_with (first | (at_builtin; refine wpList_copy_runI _ rfl _ _ 23 23 rfl _ _ rfl rfl (C1.out _ _ _ rfl) ?_) | (at_builtin; refine wpList_copy_runI _ rfl _ _ 23 23 rfl _ _ rfl rfl (C2.out _ _ _ _ _ rfl rfl) ?_) | (at_builtin; refine Lib.wpList_append_run _ rfl _ _ _ _ rfl _ _ rfl rfl _ _ CR.out ?_))
  go_region_law (fail)
  all_goals go_wp2_with fail
  all_goals exact bodyPost_ret (v := .slice (some ⟨w.heap.size, 0, none⟩) (n + 1) G) (by simp [results, Try.results19, go_sem]) rfl ⟨_, rfl, HX.out, HB.out⟩

end Go.Proofs.Ytmbjioboepbjnaa
