/- An operation read out of a text: both texts' walks. -/
import Derived.Test.YtjalboplilolkaaDoorOpText
import Derived.Test.YtjalboplilolkaaDoorFieldsGet
namespace Go.Proofs.YtjalboplilolkaaDoor
open Go.RowKit Go.Sort
set_option maxRecDepth 100000
set_option linter.unusedVariables false
set_option linter.unusedSimpArgs false
attribute [local go_sem ↓] Go.wp_at_zero Go.wp_at_succ

def zeroO : OpD := ⟨0, ⟨#[]⟩, ⟨#[]⟩, 0, ⟨#[]⟩⟩
/-- The operation that a text is the text of. -/
def OpG (s : ByteArray) (o : OpD) (b : Bool) : Prop :=
  (b = true ∧ opOkB o = true ∧ opT o = s) ∨ (b = false ∧ o = zeroO ∧ ∀ q, opOkB q = true → opT q ≠ s)
theorem decT_inj {a b : Int} (h0 : 0 ≤ a) (h1 : 0 ≤ b) (h : decT a = decT b) : a = b := decL_inj h0 h1 (by have := congrArg (fun x : ByteArray => x.data.toList) h; simpa only [decT_data] using this)
theorem recT_inj {a b : List ByteArray} (h : recT a = recT b) : a = b := recL_inj (by have := congrArg (fun x : ByteArray => x.data.toList) h; simpa only [recT, ofL_data] using this)
theorem opT_inj {o q : OpD} (ho : opOkB o = true) (hq : opOkB q = true) (h : opT o = opT q) : o = q := by
  rw [opT, opT, if_pos ho, if_pos hq] at h
  have h1 := recT_inj h
  have b1 := op_bounds ho
  have b2 := op_bounds hq
  simp only [opF, List.cons.injEq, and_true] at h1
  obtain ⟨h1, h2, h3, h4, h5⟩ := h1
  have k1 := decT_inj (by omega) (by omega) h1
  have k4 := decT_inj (by omega) (by omega) h4
  obtain ⟨a, b, c, d, e⟩ := o
  obtain ⟨a', b', c', d', e'⟩ := q
  dsimp only at k1 h2 h3 k4 h5
  rw [k1, h2, h3, k4, h5]
theorem opG_one {s : ByteArray} {o o' : OpD} {b b' : Bool} (h : OpG s o b) (h' : OpG s o' b') : b = b' ∧ o = o' := by
  rcases h with ⟨rfl, h1, h2⟩ | ⟨rfl, rfl, h1⟩
  · rcases h' with ⟨rfl, h1', h2'⟩ | ⟨rfl, rfl, h1'⟩
    · exact ⟨rfl, opT_inj h1 h1' (h2.trans h2'.symm)⟩
    · exact absurd h2 (h1' o h1)
  · rcases h' with ⟨rfl, h1', h2'⟩ | ⟨rfl, rfl, h1'⟩
    · exact absurd h2' (h1 o' h1')
    · exact ⟨rfl, rfl⟩
theorem opG_put {o : OpD} (h : opOkB o = true) : OpG (opT o) o true := .inl ⟨rfl, h, rfl⟩
theorem op_recL {o : OpD} (h : opOkB o = true) {s : ByteArray} (e : opT o = s) : recL (opF o) = s.data.toList := by
  rw [← e, opT, if_pos h, recT, ofL_data]
/-- No record, or none of five fields: no operation. -/
theorem opG_no {s : ByteArray} {l : List ByteArray} {b : Bool} (h : RecG s l b) (hn : b = false ∨ ¬ l.length = 5) : OpG s zeroO false :=
  .inr ⟨rfl, rfl, fun q hq he => by
    have hr := op_recL hq he
    rcases h with ⟨rfl, h1, h2⟩ | ⟨rfl, rfl, h1⟩
    · rcases hn with hn | hn
      · cases hn
      · have := recL_inj (h2.trans hr.symm)
        rw [this] at hn
        exact hn rfl
    · exact h1 (opF q) (op_rec hq) hr⟩
theorem op_five {s f0 f1 f2 f3 f4 : ByteArray} (h : RecG s [f0, f1, f2, f3, f4] true) : ∀ q, opOkB q = true → opT q = s → q = ⟨numV f0, f1, f2, numV f3, f4⟩ ∧ numB f0 = true ∧ numB f3 = true := fun q hq he => by
  have hr := op_recL hq he
  rcases h with ⟨_, h1, h2⟩ | ⟨h, _⟩
  · have e := recL_inj (h2.trans hr.symm)
    have hb := op_bounds hq
    simp only [opF, List.cons.injEq, and_true] at e
    obtain ⟨rfl, rfl, rfl, rfl, rfl⟩ := e
    have n0 := numB_dec (s := decT q.kind) (n := q.kind) (by omega) (by omega) (decT_data _)
    have n3 := numB_dec (s := decT q.at_) (n := q.at_) (by omega) (by omega) (decT_data _)
    refine ⟨?_, n0.1, n3.1⟩
    rw [n0.2, n3.2]
  · cases h
theorem opG_num {s f0 f1 f2 f3 f4 : ByteArray} (h : RecG s [f0, f1, f2, f3, f4] true) (hn : numB f0 = false ∨ numB f3 = false) : OpG s zeroO false :=
  .inr ⟨rfl, rfl, fun q hq he => by
    obtain ⟨_, h1, h2⟩ := op_five h q hq he
    rcases hn with hn | hn
    · rw [h1] at hn; cases hn
    · rw [h2] at hn; cases hn⟩
theorem opG_ne {s f0 f1 f2 f3 f4 : ByteArray} (h : RecG s [f0, f1, f2, f3, f4] true) (hn : opT ⟨numV f0, f1, f2, numV f3, f4⟩ ≠ s) : OpG s zeroO false :=
  .inr ⟨rfl, rfl, fun q hq he => by
    obtain ⟨e, _⟩ := op_five h q hq he
    rw [e] at he
    exact hn he⟩
theorem opG_yes {s f0 f1 f2 f3 f4 : ByteArray} (h : RecG s [f0, f1, f2, f3, f4] true) (hn : opT ⟨numV f0, f1, f2, numV f3, f4⟩ = s) : OpG s ⟨numV f0, f1, f2, numV f3, f4⟩ true := by
  refine .inl ⟨rfl, ?_, hn⟩
  cases hok : opOkB ⟨numV f0, f1, f2, numV f3, f4⟩
  · exfalso
    rw [opT, hok] at hn
    rcases h with ⟨_, h1, h2⟩ | ⟨h, _⟩
    · rw [← hn] at h2
      simp [recL, fldL] at h2
    · cases h
  · rfl
theorem below_set5 {w W : World} (h : Below w.heap.size w W) {b : Nat} (hb : w.heap.size ≤ b) (v0 v1 v2 v3 v4 : Value) : Below w.heap.size w (((((W.setCell ⟨b, 0, none⟩ v0).setCell ⟨b, 1, none⟩ v1).setCell ⟨b, 2, none⟩ v2).setCell ⟨b, 3, none⟩ v3).setCell ⟨b, 4, none⟩ v4) :=
  below_set (below_set (below_set (below_set (below_set h (p := ⟨b, 0, none⟩) hb v0) (p := ⟨b, 1, none⟩) hb v1) (p := ⟨b, 2, none⟩) hb v2) (p := ⟨b, 3, none⟩) hb v3) (p := ⟨b, 4, none⟩) hb v4
theorem box_putO {w : World} {b : Nat} {cs : Array Value} {T : TypeId} (h : BoxAt w b cs T) (j : Nat) (v : Value) : BoxAt (w.setCell ⟨b, j, none⟩ v) b (cs.setIfInBounds j v) T := by
  obtain ⟨hlt, hk⟩ := Array.getElem?_eq_some_iff.1 (show w.heap[b]? = some (.cells cs T) from h)
  show (w.heap.modify b _)[b]? = _
  rw [Array.getElem?_eq_getElem (by rw [Array.size_modify]; exact hlt), Array.getElem_modify_self, hk]
  rfl
theorem cell_allocd {w : World} {b o : Nat} (h : b < w.heap.size) (x : Obj) : (w.alloc x).drew.cell? ⟨b, o, none⟩ = w.cell? ⟨b, o, none⟩ := World.cell?_of_block (w := w) (a := ⟨b, o, none⟩) (Below.heap_alloc _ _ _ h)
def GetO (w : World) (s : ByteArray) (e : Ending) (w' : World) : Prop := ∃ (o : OpD) (b : Bool), e = .returned (.tuple #[o.v, .bool b]) ∧ OpG s o b ∧ Below w.heap.size w w'
theorem five_of {l : List ByteArray} (h : l.length = 5) : ∃ a b c d e, l = [a, b, c, d, e] := by
  match l, h with
  | [a, b, c, d, e], _ => exact ⟨a, b, c, d, e, rfl⟩

set_option maxHeartbeats 4000000 in
theorem opGet_any (w : World) (s : ByteArray) (hM : MaxAt w) (hT : TenAt w) (hE : ErrAt w) (hs : s.size ≤ 1048576) : Calls Tryd.prog 32 #[.string s] w (GetO w s) := by
  have HF := Lib.hid (fun W (hB : Below w.heap.size w W) => fieldsGet_any W s (hT.below hB) (hE.below hB) (show CutAt W from hM.below hB) hs)
  have LB := Lib.hid (And.intro hM (And.intro hT hE))
  have BX := Lib.hid (box_new w #[.int .i64 0, .string ⟨#[]⟩, .string ⟨#[]⟩, .int .i64 0, .string ⟨#[]⟩] 54)
  have HBa := Lib.hid (below_alloc (Below.refl w.heap.size w) (.cells #[.int .i64 0, .string ⟨#[]⟩, .string ⟨#[]⟩, .int .i64 0, .string ⟨#[]⟩] 54))
  clear hM hT hE
  go_enter Tryd.func32, Tryd.ntmps32
  go_wp2_with fail
  refine Calls.mono (HF.out _ HBa.out) ?_
  rintro e w1 ⟨v, l, b, rfl, hG, hO, hB⟩
  have HG := Lib.hid hG
  obtain ⟨A1, c1, rfl, hc1, hm1, _, hrd⟩ := hO.form
  have R1 := Lib.hid hrd
  have BX1 := Lib.hid (BX.out.below hB)
  have HB1 := Lib.hid (below_below HBa.out hB)
  have bx1 := BX1.out.cell
  have bf1 := BX1.out.froz
  have hl1 := BX1.out.lt
  clear hG hO hrd hB BX HBa HF
  cases b
  · have HE := Lib.hid (opG_no HG.out (.inl rfl))
    go_wp2_with fail
    refine bodyPost_ret (v := .tuple #[.agg #[.int .i64 0, .string ⟨#[]⟩, .string ⟨#[]⟩, .int .i64 0, .string ⟨#[]⟩], .bool false]) (by simp [results, Tryd.results32, go_sem, bx1, hl1]) rfl ⟨zeroO, false, rfl, HE.out, ?_⟩
    exact below_set5 HB1.out (Nat.le_refl _) _ _ _ _ _
  by_cases h5 : l.length = 5
  · obtain ⟨f0, f1, f2, f3, f4, rfl⟩ := five_of h5
    have hlen : ([f0, f1, f2, f3, f4] : List ByteArray).length = 5 := rfl
    have hsz : ∀ x ∈ [f0, f1, f2, f3, f4], x.size ≤ 1048576 := fun x hx => by
      rcases HG.out with ⟨_, _, h2⟩ | ⟨h, _⟩
      · have h3 := rec_mem_len x hx
        have h4 : s.data.toList.length = s.size := Array.length_toList
        rw [h2] at h3
        omega
      · cases h
    have z0 := hsz f0 (by simp)
    have z1 := hsz f1 (by simp)
    have z2 := hsz f2 (by simp)
    have z3 := hsz f3 (by simp)
    have z4 := hsz f4 (by simp)
    obtain ⟨b, off, rfl, hb, hcs⟩ := R1.out (by simp)
    have hcc : 5 ≤ c1 := hc1
    have HFC := Lib.hid (show ∀ W, Below w1.heap.size w1 W → W.cell? ⟨b, off, none⟩ = some (.string f0) ∧ W.cell? ⟨b, off + 1, none⟩ = some (.string f1) ∧ W.cell? ⟨b, off + 2, none⟩ = some (.string f2) ∧ W.cell? ⟨b, off + 3, none⟩ = some (.string f3) ∧ W.cell? ⟨b, off + 4, none⟩ = some (.string f4) from fun W hB =>
      ⟨((bcell hB).1 b _ hb).trans (hcs 0 f0 rfl 0 (by omega)), ((bcell hB).1 b _ hb).trans (hcs 1 f1 rfl 0 (by omega)), ((bcell hB).1 b _ hb).trans (hcs 2 f2 rfl 0 (by omega)), ((bcell hB).1 b _ hb).trans (hcs 3 f3 rfl 0 (by omega)), ((bcell hB).1 b _ hb).trans (hcs 4 f4 rfl 0 (by omega))⟩)
    obtain ⟨d0, d1, d2, d3, d4⟩ := HFC.out w1 (Below.refl _ _)
    have HN0 := Lib.hid (fun W (hB : Below w.heap.size w W) => numGet_any f0 W (LB.out.2.1.below hB) (LB.out.2.2.below hB) (by omega))
    have HN3 := Lib.hid (fun W (hB : Below w.heap.size w W) => numGet_any f3 W (LB.out.2.1.below hB) (LB.out.2.2.below hB) (by omega))
    have HP := Lib.hid (fun W (hB : Below w.heap.size w W) => opPut_any W ⟨numV f0, f1, f2, numV f3, f4⟩ (LB.out.1.below hB) (LB.out.2.1.below hB) z1 z2 z4)
    have GN := Lib.hid (opG_num HG.out)
    have GNE := Lib.hid (opG_ne HG.out)
    have GY := Lib.hid (opG_yes HG.out)
    generalize opT ⟨numV f0, f1, f2, numV f3, f4⟩ = T at *
    simp only [OpD.v] at HP
    generalize numV f0 = v0 at *
    generalize numV f3 = v3 at *
    generalize numB f0 = b0 at *
    generalize numB f3 = b3 at *
    clear hcs hsz HG R1 h5 hc1 hlen
    go_wp2_with fail
    refine Calls.mono (HN0.out _ HB1.out) ?_
    rintro e w2 ⟨rfl, hB2⟩
    have HB2 := Lib.hid (below_below HB1.out hB2)
    have H12 := Lib.hid hB2
    obtain ⟨e0, e1, e2, e3, e4⟩ := HFC.out w2 H12.out
    have BX2 := Lib.hid (BX1.out.below hB2)
    clear hB2 d0 d1 d2 d3 d4 bx1 bf1 BX1
    go_wp2_with fail
    refine Calls.mono (HN3.out _ HB2.out) ?_
    rintro e w3 ⟨rfl, hB3⟩
    have HB3 := Lib.hid (below_below HB2.out hB3)
    have H13 := Lib.hid (below_below H12.out hB3)
    obtain ⟨d0, d1, d2, d3, d4⟩ := HFC.out w3 H13.out
    have BX3 := Lib.hid (BX2.out.below hB3)
    have hl3 := BX3.out.lt
    have hb3 : b < w3.heap.size := Nat.lt_of_lt_of_le hb H13.out.size
    clear hB3 e0 e1 e2 e3 e4 BX2
    --G1
    go_wp2_with fail
    go_region_held3 (fun w' => w'.cell? ⟨b, off + 1, none⟩ = some (.string f1) ∧ w'.cell? ⟨b, off + 2, none⟩ = some (.string f2) ∧ w'.cell? ⟨b, off + 4, none⟩ = some (.string f4)) (first | go_keep | exact ⟨(cell_allocd hb3 _).trans d1, (cell_allocd hb3 _).trans d2, (cell_allocd hb3 _).trans d4⟩)
      (first | fail)
    have hBa := Below.drew (below_alloc (Below.refl w3.heap.size w3) (.cells #[.int .i64 v0, .string f1, .string f2, .int .i64 v3, .string f4] 54))
    have BO := Lib.hid (show BoxAt (w3.alloc (.cells #[.int .i64 v0, .string f1, .string f2, .int .i64 v3, .string f4] 54)).drew w3.heap.size #[.int .i64 v0, .string f1, .string f2, .int .i64 v3, .string f4] 54 from box_new w3 _ _)
    have BX4 := Lib.hid (BX3.out.below hBa)
    have HB4 := Lib.hid (below_below HB3.out hBa)
    obtain ⟨W4, hW4⟩ : ∃ W4, (w3.alloc (.cells #[.int .i64 v0, .string f1, .string f2, .int .i64 v3, .string f4] 54)).drew = W4 := ⟨_, rfl⟩
    rw [hW4] at BO BX4 HB4 ⊢
    have hl4 := BX4.out.lt
    have bx4 := BX4.out.cell
    have bf4 := BX4.out.froz
    have bo4 := BO.out.cell
    clear hBa hW4 d0 d1 d2 d3 d4 HB3 HB2 HB1 H12 H13 HFC BX3 HN0 HN3
    cases b0
    · have HE := Lib.hid (GN.out (.inl rfl))
      go_wp2_with fail
      refine bodyPost_ret (v := .tuple #[.agg #[.int .i64 0, .string ⟨#[]⟩, .string ⟨#[]⟩, .int .i64 0, .string ⟨#[]⟩], .bool false]) (by simp [results, Tryd.results32, go_sem, bx4, hl4]) rfl ⟨zeroO, false, rfl, HE.out, ?_⟩
      exact below_set5 HB4.out (Nat.le_refl _) _ _ _ _ _
    cases b3
    · have HE := Lib.hid (GN.out (.inr rfl))
      go_wp2_with fail
      refine bodyPost_ret (v := .tuple #[.agg #[.int .i64 0, .string ⟨#[]⟩, .string ⟨#[]⟩, .int .i64 0, .string ⟨#[]⟩], .bool false]) (by simp [results, Tryd.results32, go_sem, bx4, hl4]) rfl ⟨zeroO, false, rfl, HE.out, ?_⟩
      exact below_set5 HB4.out (Nat.le_refl _) _ _ _ _ _
    go_wp2_with fail
    refine Calls.mono (HP.out _ HB4.out) ?_
    rintro e w5 ⟨rfl, hB5⟩
    have HB5 := Lib.hid (below_below HB4.out hB5)
    have BX5 := Lib.hid (BX4.out.below hB5)
    have BO5 := Lib.hid (BO.out.below hB5)
    have hl5 := BX5.out.lt
    have bx5 := BX5.out.cell
    have bf5 := BX5.out.froz
    have bo5 := BO5.out.cell
    have hlo5 := BO5.out.lt
    have hne5 : ¬ w3.heap.size = w.heap.size := by omega
    clear hB5 bx4 bf4 bo4 BX4 BO HB4 GN
    by_cases hTs : T = s
    · have HE := Lib.hid (GY.out hTs)
      have hq : (T.toList == s.toList) = true := by rw [hTs]; simp
      clear hTs GY GNE
      go_wp2_with fail
      refine bodyPost_ret (v := .tuple #[.agg #[.int .i64 v0, .string f1, .string f2, .int .i64 v3, .string f4], .bool true]) (by simp [results, Tryd.results32, go_sem, bx5, hl5]) rfl ⟨⟨v0, f1, f2, v3, f4⟩, true, rfl, HE.out, ?_⟩
      exact below_set5 HB5.out (Nat.le_refl _) _ _ _ _ _
    · have HE := Lib.hid (GNE.out hTs)
      have hq : (T.toList == s.toList) = false := by
        cases h : (T.toList == s.toList)
        · rfl
        · rw [beq_iff_eq, Lib.toList_data, Lib.toList_data] at h
          exact absurd (ofL_ext h) hTs
      clear hTs GY GNE
      go_wp2_with fail
      refine bodyPost_ret (v := .tuple #[.agg #[.int .i64 0, .string ⟨#[]⟩, .string ⟨#[]⟩, .int .i64 0, .string ⟨#[]⟩], .bool false]) (by simp [results, Tryd.results32, go_sem, bx5, hl5]) rfl ⟨zeroO, false, rfl, HE.out, ?_⟩
      exact below_set5 HB5.out (Nat.le_refl _) _ _ _ _ _
  · have HE := Lib.hid (opG_no HG.out (.inr h5))
    have h5' : ((l.length : Int) != 5) = true := by simp; omega
    clear h5
    go_wp2_with fail
    refine bodyPost_ret (v := .tuple #[.agg #[.int .i64 0, .string ⟨#[]⟩, .string ⟨#[]⟩, .int .i64 0, .string ⟨#[]⟩], .bool false]) (by simp [results, Tryd.results32, go_sem, bx1, hl1]) rfl ⟨zeroO, false, rfl, HE.out, ?_⟩
    exact below_set5 HB1.out (Nat.le_refl _) _ _ _ _ _
set_option maxHeartbeats 4000000 in
theorem specOpGet_any (w : World) (s : ByteArray) (hs : s.size ≤ 1048576) : Calls Tryd.prog 31 #[.string s] w (GetO w s) := by
  have HF := Lib.hid (fun W => specFieldsGet_any W s hs)
  have BX := Lib.hid (box_new w #[.int .i64 0, .string ⟨#[]⟩, .string ⟨#[]⟩, .int .i64 0, .string ⟨#[]⟩] 54)
  have HBa := Lib.hid (below_alloc (Below.refl w.heap.size w) (.cells #[.int .i64 0, .string ⟨#[]⟩, .string ⟨#[]⟩, .int .i64 0, .string ⟨#[]⟩] 54))
  go_enter Tryd.func31, Tryd.ntmps31
  go_wp2_with fail
  refine Calls.mono (HF.out _) ?_
  rintro e w1 ⟨v, l, b, rfl, hG, hO, hB⟩
  have HG := Lib.hid hG
  obtain ⟨A1, c1, rfl, hc1, hm1, _, hrd⟩ := hO.form
  have R1 := Lib.hid hrd
  have BX1 := Lib.hid (BX.out.below hB)
  have HB1 := Lib.hid (below_below HBa.out hB)
  have bx1 := BX1.out.cell
  have bf1 := BX1.out.froz
  have hl1 := BX1.out.lt
  clear hG hO hrd hB BX HBa HF
  cases b
  · have HE := Lib.hid (opG_no HG.out (.inl rfl))
    go_wp2_with fail
    refine bodyPost_ret (v := .tuple #[.agg #[.int .i64 0, .string ⟨#[]⟩, .string ⟨#[]⟩, .int .i64 0, .string ⟨#[]⟩], .bool false]) (by simp [results, Tryd.results31, go_sem, bx1, hl1]) rfl ⟨zeroO, false, rfl, HE.out, ?_⟩
    exact below_set5 HB1.out (Nat.le_refl _) _ _ _ _ _
  by_cases h5 : l.length = 5
  · obtain ⟨f0, f1, f2, f3, f4, rfl⟩ := five_of h5
    have hlen : ([f0, f1, f2, f3, f4] : List ByteArray).length = 5 := rfl
    have hsz : ∀ x ∈ [f0, f1, f2, f3, f4], x.size ≤ 1048576 := fun x hx => by
      rcases HG.out with ⟨_, _, h2⟩ | ⟨h, _⟩
      · have h3 := rec_mem_len x hx
        have h4 : s.data.toList.length = s.size := Array.length_toList
        rw [h2] at h3
        omega
      · cases h
    have z0 := hsz f0 (by simp)
    have z1 := hsz f1 (by simp)
    have z2 := hsz f2 (by simp)
    have z3 := hsz f3 (by simp)
    have z4 := hsz f4 (by simp)
    obtain ⟨b, off, rfl, hb, hcs⟩ := R1.out (by simp)
    have hcc : 5 ≤ c1 := hc1
    have HFC := Lib.hid (show ∀ W, Below w1.heap.size w1 W → W.cell? ⟨b, off, none⟩ = some (.string f0) ∧ W.cell? ⟨b, off + 1, none⟩ = some (.string f1) ∧ W.cell? ⟨b, off + 2, none⟩ = some (.string f2) ∧ W.cell? ⟨b, off + 3, none⟩ = some (.string f3) ∧ W.cell? ⟨b, off + 4, none⟩ = some (.string f4) from fun W hB =>
      ⟨((bcell hB).1 b _ hb).trans (hcs 0 f0 rfl 0 (by omega)), ((bcell hB).1 b _ hb).trans (hcs 1 f1 rfl 0 (by omega)), ((bcell hB).1 b _ hb).trans (hcs 2 f2 rfl 0 (by omega)), ((bcell hB).1 b _ hb).trans (hcs 3 f3 rfl 0 (by omega)), ((bcell hB).1 b _ hb).trans (hcs 4 f4 rfl 0 (by omega))⟩)
    obtain ⟨d0, d1, d2, d3, d4⟩ := HFC.out w1 (Below.refl _ _)
    have HN0 := Lib.hid (fun W => specNumGet_any f0 W (by omega))
    have HN3 := Lib.hid (fun W => specNumGet_any f3 W (by omega))
    have HP := Lib.hid (fun W => specOpPut_any W ⟨numV f0, f1, f2, numV f3, f4⟩ z1 z2 z4)
    have HOK := Lib.hid (fun W => specOpOk_any W ⟨numV f0, f1, f2, numV f3, f4⟩ z1 z2 z4)
    have GK := Lib.hid (fun (h : opOkB ⟨numV f0, f1, f2, numV f3, f4⟩ = false) (e : opT ⟨numV f0, f1, f2, numV f3, f4⟩ = s) => (show False from by rcases opG_yes HG.out e with ⟨_, h1, _⟩ | ⟨h1, _⟩; (rw [h] at h1; cases h1); (cases h1)))
    have GNE := Lib.hid (opG_ne HG.out)
    have GY := Lib.hid (opG_yes HG.out)
    generalize opT ⟨numV f0, f1, f2, numV f3, f4⟩ = T at *
    generalize opOkB ⟨numV f0, f1, f2, numV f3, f4⟩ = ok at *
    simp only [OpD.v] at HP HOK
    generalize numV f0 = v0 at *
    generalize numV f3 = v3 at *
    generalize numB f0 = b0 at *
    generalize numB f3 = b3 at *
    clear hcs hsz HG R1 h5 hc1 hlen
    have hl1b : b < w1.heap.size := hb
    go_wp2_with fail
    go_region_held3 (fun w' => w'.cell? ⟨b, off + 1, none⟩ = some (.string f1) ∧ w'.cell? ⟨b, off + 2, none⟩ = some (.string f2) ∧ w'.cell? ⟨b, off + 4, none⟩ = some (.string f4)) (first | go_keep | exact ⟨(cell_allocd hb _).trans d1, (cell_allocd hb _).trans d2, (cell_allocd hb _).trans d4⟩)
      (first | fail)
    have hBa := Below.drew (below_alloc (Below.refl w1.heap.size w1) (.cells #[.int .i64 0, .string f1, .string f2, .int .i64 0, .string f4] 54))
    have BO := Lib.hid (show BoxAt (w1.alloc (.cells #[.int .i64 0, .string f1, .string f2, .int .i64 0, .string f4] 54)).drew w1.heap.size #[.int .i64 0, .string f1, .string f2, .int .i64 0, .string f4] 54 from box_new w1 _ _)
    have BX4 := Lib.hid (BX1.out.below hBa)
    have HB4 := Lib.hid (below_below HB1.out hBa)
    obtain ⟨d0, d1, d2, d3, d4⟩ := HFC.out _ hBa
    have hs4 : w1.heap.size < (w1.alloc (.cells #[.int .i64 0, .string f1, .string f2, .int .i64 0, .string f4] 54)).drew.heap.size := BO.out.lt
    obtain ⟨W4, hW4⟩ : ∃ W4, (w1.alloc (.cells #[.int .i64 0, .string f1, .string f2, .int .i64 0, .string f4] 54)).drew = W4 := ⟨_, rfl⟩
    rw [hW4] at BO BX4 HB4 d0 d1 d2 d3 d4 hs4 ⊢
    have hl4 : w.heap.size < W4.heap.size := BX4.out.lt
    have hb4 : b < W4.heap.size := by omega
    have bx4 := BX4.out.cell
    have bf4 := BX4.out.froz
    have bo4 := BO.out.cell
    have bof4 := BO.out.froz
    have hne4 : ¬ w1.heap.size = w.heap.size := by omega
    have hnb4 : ¬ w1.heap.size = b := by omega
    have hnb5 : ¬ b = w1.heap.size := by omega
    have BO2 := Lib.hid (box_putO (box_putO BO.out 0 (.int .i64 v0)) 3 (.int .i64 v3))
    have BX6 := Lib.hid ((BX4.out.set (p := ⟨w1.heap.size, 0, none⟩) (fun e => hne4 e.symm) (.int .i64 v0)).set (p := ⟨w1.heap.size, 3, none⟩) (fun e => hne4 e.symm) (.int .i64 v3))
    have HB6 := Lib.hid (below_set (below_set HB4.out (p := ⟨w1.heap.size, 0, none⟩) (Nat.le_of_lt hl1) (.int .i64 v0)) (p := ⟨w1.heap.size, 3, none⟩) (Nat.le_of_lt hl1) (.int .i64 v3))
    clear hBa hW4 HB1 HFC BX1 bx1 bf1
    go_wp2_with fail
    refine Calls.mono (HN0.out _) ?_
    rintro e w2 ⟨rfl, rfl⟩
    go_wp2_with fail
    refine Calls.mono (HN3.out _) ?_
    rintro e w3 ⟨rfl, rfl⟩
    go_wp2_with fail
    refine Calls.mono (HOK.out _) ?_
    rintro e w5 ⟨rfl, hB5⟩
    have HB5 := Lib.hid (below_below HB6.out hB5)
    have BX5 := Lib.hid (BX6.out.below hB5)
    have BO5 := Lib.hid (show BoxAt w5 w1.heap.size #[.int .i64 v0, .string f1, .string f2, .int .i64 v3, .string f4] 54 from BO2.out.below hB5)
    have hl5 := BX5.out.lt
    have bx5 := BX5.out.cell
    have bf5 := BX5.out.froz
    have bo5 := BO5.out.cell
    have hlo5 := BO5.out.lt
    clear hB5 bx4 bf4 bo4 bof4 BX4 BO HB4 BO2 BX6 HB6 d0 d1 d2 d3 d4
    cases ok
    · have HE := Lib.hid (GNE.out (GK.out rfl))
      go_wp2_with fail
      refine bodyPost_ret (v := .tuple #[.agg #[.int .i64 0, .string ⟨#[]⟩, .string ⟨#[]⟩, .int .i64 0, .string ⟨#[]⟩], .bool false]) (by simp [results, Tryd.results31, go_sem, bx5, hl5]) rfl ⟨zeroO, false, rfl, HE.out, ?_⟩
      exact below_set5 HB5.out (Nat.le_refl _) _ _ _ _ _
    go_wp2_with fail
    refine Calls.mono (HP.out _) ?_
    rintro e w6 ⟨rfl, hB6⟩
    have HB6 := Lib.hid (below_below HB5.out hB6)
    have BX6 := Lib.hid (BX5.out.below hB6)
    have BO6 := Lib.hid (BO5.out.below hB6)
    have hl6 := BX6.out.lt
    have bx6 := BX6.out.cell
    have bf6 := BX6.out.froz
    have bo6 := BO6.out.cell
    have hlo6 := BO6.out.lt
    clear hB6 bx5 bf5 bo5 BX5 BO5 HB5 GK
    by_cases hTs : T = s
    · have HE := Lib.hid (GY.out hTs)
      have hq : (T.toList == s.toList) = true := by rw [hTs]; simp
      clear hTs GY GNE
      go_wp2_with fail
      refine bodyPost_ret (v := .tuple #[.agg #[.int .i64 v0, .string f1, .string f2, .int .i64 v3, .string f4], .bool true]) (by simp [results, Tryd.results31, go_sem, bx6, hl6]) rfl ⟨⟨v0, f1, f2, v3, f4⟩, true, rfl, HE.out, ?_⟩
      exact below_set5 HB6.out (Nat.le_refl _) _ _ _ _ _
    · have HE := Lib.hid (GNE.out hTs)
      have hq : (T.toList == s.toList) = false := by
        cases h : (T.toList == s.toList)
        · rfl
        · rw [beq_iff_eq, Lib.toList_data, Lib.toList_data] at h
          exact absurd (ofL_ext h) hTs
      clear hTs GY GNE
      go_wp2_with fail
      refine bodyPost_ret (v := .tuple #[.agg #[.int .i64 0, .string ⟨#[]⟩, .string ⟨#[]⟩, .int .i64 0, .string ⟨#[]⟩], .bool false]) (by simp [results, Tryd.results31, go_sem, bx6, hl6]) rfl ⟨zeroO, false, rfl, HE.out, ?_⟩
      exact below_set5 HB6.out (Nat.le_refl _) _ _ _ _ _
  · have HE := Lib.hid (opG_no HG.out (.inr h5))
    have h5' : ((l.length : Int) != 5) = true := by simp; omega
    clear h5
    go_wp2_with fail
    refine bodyPost_ret (v := .tuple #[.agg #[.int .i64 0, .string ⟨#[]⟩, .string ⟨#[]⟩, .int .i64 0, .string ⟨#[]⟩], .bool false]) (by simp [results, Tryd.results31, go_sem, bx1, hl1]) rfl ⟨zeroO, false, rfl, HE.out, ?_⟩
    exact below_set5 HB1.out (Nat.le_refl _) _ _ _ _ _

end Go.Proofs.YtjalboplilolkaaDoor
