/- The node that a text is the text of: both texts' walks. -/
import Derived.Test.YthedmiippfpbnaaGreatDoorPtrGet
import Derived.Test.YthedmiippfpbnaaGreatDoorNodeText
import Derived.Test.YthedmiippfpbnaaGreatDoorNodeGetPlain
namespace Go.Proofs.YthedmiippfpbnaaGreatDoor
open Go.RowKit Go.Sort
set_option maxRecDepth 100000
set_option linter.unusedVariables false
set_option linter.unusedSimpArgs false

def zero10 : Array Value := #[.int .i64 0, .int .i64 0, .int .i64 0, .int .i64 0, .int .i64 0, .int .i64 0, .int .i64 0, .int .i64 0, .int .i64 0, .int .i64 0]
theorem seven_of {l : List ByteArray} (h : l.length = 7) : ∃ a b c d e f g, l = [a, b, c, d, e, f, g] := by
  match l, h with
  | [a, b, c, d, e, f, g], _ => exact ⟨a, b, c, d, e, f, g, rfl⟩
theorem below_set10 {w W : World} (h : Below w.heap.size w W) {b : Nat} (hb : w.heap.size ≤ b) (v0 v1 v2 v3 v4 v5 v6 v7 v8 v9 : Value) : Below w.heap.size w ((((((((((W.setCell ⟨b, 0, none⟩ v0).setCell ⟨b, 1, none⟩ v1).setCell ⟨b, 2, none⟩ v2).setCell ⟨b, 3, none⟩ v3).setCell ⟨b, 4, none⟩ v4).setCell ⟨b, 5, none⟩ v5).setCell ⟨b, 6, none⟩ v6).setCell ⟨b, 7, none⟩ v7).setCell ⟨b, 8, none⟩ v8).setCell ⟨b, 9, none⟩ v9) :=
  below_set (p := ⟨b, 9, none⟩) (below_set (p := ⟨b, 8, none⟩) (below_set (p := ⟨b, 7, none⟩) (below_set (p := ⟨b, 6, none⟩) (below_set (p := ⟨b, 5, none⟩) (below_set5P h hb v0 v1 v2 v3 v4) hb v5) hb v6) hb v7) hb v8) hb v9
theorem below_set5G {w W : World} (h : Below w.heap.size w W) {b : Nat} (hb : w.heap.size ≤ b) (j0 j1 j2 j3 j4 : Nat) (v0 v1 v2 v3 v4 : Value) : Below w.heap.size w (((((W.setCell ⟨b, j0, none⟩ v0).setCell ⟨b, j1, none⟩ v1).setCell ⟨b, j2, none⟩ v2).setCell ⟨b, j3, none⟩ v3).setCell ⟨b, j4, none⟩ v4) :=
  below_set (below_set (below_set (below_set (below_set h (p := ⟨b, j0, none⟩) hb v0) (p := ⟨b, j1, none⟩) hb v1) (p := ⟨b, j2, none⟩) hb v2) (p := ⟨b, j3, none⟩) hb v3) (p := ⟨b, j4, none⟩) hb v4
def GetNd (w : World) (s : ByteArray) (e : Ending) (w' : World) : Prop := ∃ (n : Nd) (b : Bool), e = .returned (.tuple #[n.v, .bool b]) ∧ NodeG s n b ∧ Below w.heap.size w w'
/-- Where seven texts lie. -/
theorem seven_cells {w : World} {b off : Nat} {f0 f1 f2 f3 f4 f5 f6 : ByteArray} (h : RowAt encS 1 w b off [f0, f1, f2, f3, f4, f5, f6]) : ∀ W, Below w.heap.size w W → b < W.heap.size ∧ W.cell? ⟨b, off, none⟩ = some (.string f0) ∧ W.cell? ⟨b, off + 1, none⟩ = some (.string f1) ∧ W.cell? ⟨b, off + 2, none⟩ = some (.string f2) ∧ W.cell? ⟨b, off + 3, none⟩ = some (.string f3) ∧ W.cell? ⟨b, off + 4, none⟩ = some (.string f4) ∧ W.cell? ⟨b, off + 5, none⟩ = some (.string f5) :=
  fun W hB => ⟨Nat.lt_of_lt_of_le h.1 hB.size, ((bcell hB).1 b _ h.1).trans (h.2 0 f0 rfl 0 (by omega)), ((bcell hB).1 b _ h.1).trans (h.2 1 f1 rfl 0 (by omega)), ((bcell hB).1 b _ h.1).trans (h.2 2 f2 rfl 0 (by omega)), ((bcell hB).1 b _ h.1).trans (h.2 3 f3 rfl 0 (by omega)), ((bcell hB).1 b _ h.1).trans (h.2 4 f4 rfl 0 (by omega)), ((bcell hB).1 b _ h.1).trans (h.2 5 f5 rfl 0 (by omega))⟩
theorem rec_sizes {s : ByteArray} {l : List ByteArray} {b : Bool} (h : RecG s l b) (hs : s.size ≤ 1048576) : ∀ x ∈ l, x.size ≤ 1048576 := fun x hx => by
  rcases h with ⟨_, _, h2⟩ | ⟨_, h, _⟩
  · have h3 := rec_mem_len x hx
    have h4 : s.data.toList.length = s.size := Array.length_toList
    rw [h2] at h3
    omega
  · rw [h] at hx; cases hx

def TreeG (w : World) (d e f : ByteArray) (en : Ending) (w' : World) : Prop := ∃ (p : Pt) (bp : Bool), en = .returned (.tuple #[.agg #[.int .i64 p.at_, .int .i64 p.birth, .int .i64 p.size, .int .i64 p.sum, .int .i64 p.level, .int .i64 (numV e), .int .i64 (numV f)], .bool (bp && (numB e && numB f))]) ∧ PtrG d p bp ∧ Below w.heap.size w w'
theorem below_set7 {w W : World} (h : Below w.heap.size w W) {b : Nat} (hb : w.heap.size ≤ b) (v0 v1 v2 v3 v4 v5 v6 : Value) : Below w.heap.size w (((((((W.setCell ⟨b, 0, none⟩ v0).setCell ⟨b, 1, none⟩ v1).setCell ⟨b, 2, none⟩ v2).setCell ⟨b, 3, none⟩ v3).setCell ⟨b, 4, none⟩ v4).setCell ⟨b, 5, none⟩ v5).setCell ⟨b, 6, none⟩ v6) :=
  below_set (p := ⟨b, 6, none⟩) (below_set (p := ⟨b, 5, none⟩) (below_set5P h hb v0 v1 v2 v3 v4) hb v5) hb v6
set_option maxHeartbeats 4000000 in
theorem treeOf_any (w : World) (b off cap : Nat) (d e f : ByteArray) (h : RowAt encS 1 w b off [d, e, f]) (hc : 3 ≤ cap) (hM : MaxAt w) (hT : TenAt w) (hE : ErrAt w) (zd : d.size ≤ 1048576) (ze : e.size ≤ 1048576) (zf : f.size ≤ 1048576) :
    Calls Tryz.prog 14 #[.slice (some ⟨b, off, none⟩) 3 cap] w (TreeG w d e f) := by
  have LB := Lib.hid (And.intro hM (And.intro hT hE))
  have HP := Lib.hid (fun W (hB : Below w.heap.size w W) => ptrGet_any W d (hM.below hB) (hT.below hB) (hE.below hB) zd)
  have HNe := Lib.hid (fun W (hB : Below w.heap.size w W) => numGet_any e W (hT.below hB) (hE.below hB) (by omega))
  have HNf := Lib.hid (fun W (hB : Below w.heap.size w W) => numGet_any f W (hT.below hB) (hE.below hB) (by omega))
  have hb := h.1
  have HC := Lib.hid (show ∀ W, Below w.heap.size w W → W.cell? ⟨b, off, none⟩ = some (.string d) ∧ W.cell? ⟨b, off + 1, none⟩ = some (.string e) ∧ W.cell? ⟨b, off + 2, none⟩ = some (.string f) from fun W hB => ⟨((bcell hB).1 b _ h.1).trans (h.2 0 d rfl 0 (by omega)), ((bcell hB).1 b _ h.1).trans (h.2 1 e rfl 0 (by omega)), ((bcell hB).1 b _ h.1).trans (h.2 2 f rfl 0 (by omega))⟩)
  have BX := Lib.hid (box_new w #[.int .i64 0, .int .i64 0, .int .i64 0, .int .i64 0, .int .i64 0, .int .i64 0, .int .i64 0] 25)
  have HBa := Lib.hid (below_alloc (Below.refl w.heap.size w) (.cells #[.int .i64 0, .int .i64 0, .int .i64 0, .int .i64 0, .int .i64 0, .int .i64 0, .int .i64 0] 25))
  obtain ⟨c0, c1, c2⟩ := HC.out _ HBa.out
  unfold TreeG
  generalize numV e = ve at *
  generalize numV f = vf at *
  generalize numB e = be at *
  generalize numB f = bf at *
  clear h hM hT hE zd ze zf
  go_enter Tryz.func14, Tryz.ntmps14
  go_wp2_with fail
  refine Calls.mono (HP.out _ HBa.out) ?_
  rintro en w1 ⟨p, bp, rfl, hG, hB⟩
  have HG := Lib.hid hG
  obtain ⟨pa, pb, ps, pu, pl⟩ := p
  unfold Pt.v
  dsimp only
  have BX1 := Lib.hid (BX.out.below hB)
  have HB1 := Lib.hid (below_below HBa.out hB)
  have BP1 := Lib.hid (box_new w1 #[.int .i64 pa, .int .i64 pb, .int .i64 ps, .int .i64 pu, .int .i64 pl] 23)
  have HB2 := Lib.hid (below_alloc HB1.out (.cells #[.int .i64 pa, .int .i64 pb, .int .i64 ps, .int .i64 pu, .int .i64 pl] 23))
  have BX2 := Lib.hid (BX1.out.alloc (.cells #[.int .i64 pa, .int .i64 pb, .int .i64 ps, .int .i64 pu, .int .i64 pl] 23))
  clear c0 c1 c2 hG hB BX BX1
  obtain ⟨c0, c1, c2⟩ := HC.out _ HB2.out
  go_wp2_with fail
  refine Calls.mono (HNe.out _ HB2.out) ?_
  rintro en w3 ⟨rfl, hB⟩
  have HB3 := Lib.hid (below_below HB2.out hB)
  have BX3 := Lib.hid (BX2.out.below hB)
  have BP3 := Lib.hid (BP1.out.below hB)
  clear c0 c1 c2 hB BX2 BP1
  obtain ⟨c0, c1, c2⟩ := HC.out _ HB3.out
  have hb3 : b < w3.heap.size := Nat.lt_of_lt_of_le hb HB3.out.size
  go_wp2_with fail
  refine Calls.mono (HNf.out _ HB3.out) ?_
  rintro en w4 ⟨rfl, hB⟩
  have HB4 := Lib.hid (below_below HB3.out hB)
  have BX4 := Lib.hid (BX3.out.below hB)
  have BP4 := Lib.hid (BP3.out.below hB)
  have bx4 := BX4.out.cell
  have bf4 := BX4.out.froz
  have hl4 := BX4.out.lt
  have bp4 := BP4.out.cell
  have hp4 := BP4.out.lt
  clear c0 c1 c2 hB BX3 BP3 HC HP HNe HNf hb3
  cases bp
  · go_wp2_with fail
    refine bodyPost_ret (v := .tuple #[.agg #[.int .i64 pa, .int .i64 pb, .int .i64 ps, .int .i64 pu, .int .i64 pl, .int .i64 ve, .int .i64 vf], .bool false]) (by simp [results, Tryz.results14, go_sem, bx4, hl4]) rfl ⟨⟨pa, pb, ps, pu, pl⟩, _, rfl, HG.out, ?_⟩
    exact below_set7 HB4.out (Nat.le_refl _) _ _ _ _ _ _ _
  cases be
  · go_wp2_with fail
    refine bodyPost_ret (v := .tuple #[.agg #[.int .i64 pa, .int .i64 pb, .int .i64 ps, .int .i64 pu, .int .i64 pl, .int .i64 ve, .int .i64 vf], .bool false]) (by simp [results, Tryz.results14, go_sem, bx4, hl4]) rfl ⟨⟨pa, pb, ps, pu, pl⟩, _, rfl, HG.out, ?_⟩
    exact below_set7 HB4.out (Nat.le_refl _) _ _ _ _ _ _ _
  go_wp2_with fail
  refine bodyPost_ret (v := .tuple #[.agg #[.int .i64 pa, .int .i64 pb, .int .i64 ps, .int .i64 pu, .int .i64 pl, .int .i64 ve, .int .i64 vf], .bool bf]) (by simp [results, Tryz.results14, go_sem, bx4, hl4]) rfl ⟨⟨pa, pb, ps, pu, pl⟩, _, rfl, HG.out, ?_⟩
  exact below_set7 HB4.out (Nat.le_refl _) _ _ _ _ _ _ _
set_option maxHeartbeats 4000000 in
theorem specNodeGet_any (w : World) (s : ByteArray) (hs : s.size ≤ 1048576) : Calls Tryz.prog 4 #[.string s] w (GetNd w s) := by
  have HF := Lib.hid (fun W => specFieldsGet_any W s hs)
  have BX := Lib.hid (box_new w #[.int .i64 0, .int .i64 0, .int .i64 0, .int .i64 0, .int .i64 0, .int .i64 0, .int .i64 0, .int .i64 0, .int .i64 0, .int .i64 0] 27)
  have HBa := Lib.hid (below_alloc (Below.refl w.heap.size w) (.cells #[.int .i64 0, .int .i64 0, .int .i64 0, .int .i64 0, .int .i64 0, .int .i64 0, .int .i64 0, .int .i64 0, .int .i64 0, .int .i64 0] 27))
  go_enter Tryz.func4, Tryz.ntmps4
  go_wp2_with fail
  refine Calls.mono (HF.out _) ?_
  rintro e w1 ⟨v, l, b, rfl, hG, hO, hB⟩
  have HG := Lib.hid hG
  obtain ⟨A1, c1, rfl, hc1, hm1, _, hrd⟩ := hO.form
  have R1 := Lib.hid hrd
  have BX1 := Lib.hid (BX.out.below hB)
  have HB1 := Lib.hid (below_below HBa.out hB)
  have bx1 := BX1.out.cell
  have bf1 := BX1.out.froz
  have hl1 := BX1.out.lt
  clear hG hO hrd hB BX HBa HF
  cases b
  · have HE := Lib.hid (nodeG_len HG.out (.inl rfl))
    go_wp2_with fail
    refine bodyPost_ret (v := .tuple #[.agg #[.int .i64 0, .int .i64 0, .int .i64 0, .int .i64 0, .int .i64 0, .int .i64 0, .int .i64 0, .int .i64 0, .int .i64 0, .int .i64 0], .bool false]) (by simp [results, Tryz.results4, go_sem, bx1, hl1]) rfl ⟨node0, false, rfl, HE.out, ?_⟩
    exact below_set10 HB1.out (Nat.le_refl _) _ _ _ _ _ _ _ _ _ _
  by_cases h7 : l.length = 7
  · obtain ⟨f0, f1, f2, f3, f4, f5, f6, rfl⟩ := seven_of h7
    have hlen : ([f0, f1, f2, f3, f4, f5, f6] : List ByteArray).length = 7 := rfl
    have hsz := rec_sizes HG.out hs
    obtain ⟨b, off, rfl, hcs⟩ := R1.out (by simp)
    have hcc : 7 ≤ c1 := hc1
    have hb := hcs.1
    have HC := Lib.hid (seven_cells hcs)
    have HN0 := Lib.hid (fun W => specNumGet_any f0 W (by have := hsz f0 (by simp); omega))
    have HN1 := Lib.hid (fun W => specNumGet_any f1 W (by have := hsz f1 (by simp); omega))
    have HN2 := Lib.hid (fun W => specNumGet_any f2 W (by have := hsz f2 (by simp); omega))
    have HP3 := Lib.hid (fun W => specPtrGet_any W f3 (hsz f3 (by simp)))
    have HN4 := Lib.hid (fun W => specNumGet_any f4 W (by have := hsz f4 (by simp); omega))
    have HN5 := Lib.hid (fun W => specNumGet_any f5 W (by have := hsz f5 (by simp); omega))
    clear hcs hsz R1 h7 hc1 hlen
    obtain ⟨_, d0, d1, d2, d3, d4, d5⟩ := HC.out w1 (Below.refl _ _)
    go_wp2_with fail
    refine Calls.mono (HN0.out _) ?_
    rintro e w2 ⟨rfl, rfl⟩
    go_wp2_with fail
    refine Calls.mono (HN1.out _) ?_
    rintro e w2 ⟨rfl, rfl⟩
    go_wp2_with fail
    refine Calls.mono (HN2.out _) ?_
    rintro e w2 ⟨rfl, rfl⟩
    go_wp2_with fail
    refine Calls.mono (HP3.out _) ?_
    rintro e w5 ⟨p, bp, rfl, hG3, hB⟩
    have HN := Lib.hid (fun (h : nodeB ⟨numV f0, numV f1, numV f2, p, numV f4, numV f5⟩ = false) => nodeG_none HG.out hG3 h)
    have HO := Lib.hid (nodeG_other HG.out hG3)
    have HY := Lib.hid (fun h => nodeG_some (p := p) HG.out h)
    have HOK := Lib.hid (fun W => specNodeOk_any ⟨numV f0, numV f1, numV f2, p, numV f4, numV f5⟩ W)
    have HPUT := Lib.hid (fun W => specNodePut_any W ⟨numV f0, numV f1, numV f2, p, numV f4, numV f5⟩)
    obtain ⟨pa, pb, ps, pu, pl⟩ := p
    unfold Nd.v at HOK HPUT
    unfold Pt.v
    dsimp only at HOK HPUT ⊢
    generalize nodeB ⟨numV f0, numV f1, numV f2, ⟨pa, pb, ps, pu, pl⟩, numV f4, numV f5⟩ = NB at *
    generalize nodeT ⟨numV f0, numV f1, numV f2, ⟨pa, pb, ps, pu, pl⟩, numV f4, numV f5⟩ = T at *
    generalize numV f0 = v0 at *
    generalize numV f1 = v1 at *
    generalize numV f2 = v2 at *
    generalize numV f4 = v4 at *
    generalize numV f5 = v5 at *
    generalize numB f0 = b0 at *
    generalize numB f1 = b1 at *
    generalize numB f2 = b2 at *
    generalize numB f4 = b4 at *
    generalize numB f5 = b5 at *
    have H15 := Lib.hid (below_below (below_alloc (Below.refl w1.heap.size w1) _) hB)
    have BN5 := Lib.hid ((box_new w1 #[.int .i64 v0, .int .i64 v1, .int .i64 v2, .int .i64 0, .int .i64 0, .int .i64 0, .int .i64 0, .int .i64 0, .int .i64 0, .int .i64 0] 27).below hB)
    clear hG3 hB d0 d1 d2 d3 d4 d5 HN0 HN1 HN2 HP3 bx1 bf1 HG
    obtain ⟨hb5, d0, d1, d2, d3, d4, d5⟩ := HC.out w5 H15.out
    have bn5 := BN5.out.cell
    have bnf5 := BN5.out.froz
    have hn5 := BN5.out.lt
    have hne : ¬ b = w1.heap.size := by omega
    go_wp2_with fail
    have H16 := Lib.hid (below_set5G H15.out (b := w1.heap.size) (Nat.le_refl _) 3 4 5 6 7 (.int .i64 pa) (.int .i64 pb) (.int .i64 ps) (.int .i64 pu) (.int .i64 pl))
    have BN6 := Lib.hid (show BoxAt (((((w5.setCell ⟨w1.heap.size, 3, none⟩ (.int .i64 pa)).setCell ⟨w1.heap.size, 4, none⟩ (.int .i64 pb)).setCell ⟨w1.heap.size, 5, none⟩ (.int .i64 ps)).setCell ⟨w1.heap.size, 6, none⟩ (.int .i64 pu)).setCell ⟨w1.heap.size, 7, none⟩ (.int .i64 pl)) w1.heap.size #[.int .i64 v0, .int .i64 v1, .int .i64 v2, .int .i64 pa, .int .i64 pb, .int .i64 ps, .int .i64 pu, .int .i64 pl, .int .i64 0, .int .i64 0] 27 from box_putB (box_putB (box_putB (box_putB (box_putB BN5.out 3 (.int .i64 pa)) 4 (.int .i64 pb)) 5 (.int .i64 ps)) 6 (.int .i64 pu)) 7 (.int .i64 pl))
    generalize (((((w5.setCell ⟨w1.heap.size, 3, none⟩ (.int .i64 pa)).setCell ⟨w1.heap.size, 4, none⟩ (.int .i64 pb)).setCell ⟨w1.heap.size, 5, none⟩ (.int .i64 ps)).setCell ⟨w1.heap.size, 6, none⟩ (.int .i64 pu)).setCell ⟨w1.heap.size, 7, none⟩ (.int .i64 pl)) = W6 at *
    clear d0 d1 d2 d3 d4 d5 bn5 bnf5 hn5 BN5 H15 hb5
    obtain ⟨hb6, d0, d1, d2, d3, d4, d5⟩ := HC.out W6 H16.out
    have bn6 := BN6.out.cell
    have bnf6 := BN6.out.froz
    have hn6 := BN6.out.lt
    refine Calls.mono (HN4.out _) ?_
    rintro e w2 ⟨rfl, rfl⟩
    go_wp2_with fail
    refine Calls.mono (HN5.out _) ?_
    rintro e w2 ⟨rfl, rfl⟩
    go_wp2_with fail
    have H17 := Lib.hid (below_set (below_set H16.out (p := ⟨w1.heap.size, 8, none⟩) (Nat.le_refl _) (.int .i64 v4)) (p := ⟨w1.heap.size, 9, none⟩) (Nat.le_refl _) (.int .i64 v5))
    have BN7 := Lib.hid (show BoxAt ((W6.setCell ⟨w1.heap.size, 8, none⟩ (.int .i64 v4)).setCell ⟨w1.heap.size, 9, none⟩ (.int .i64 v5)) w1.heap.size #[.int .i64 v0, .int .i64 v1, .int .i64 v2, .int .i64 pa, .int .i64 pb, .int .i64 ps, .int .i64 pu, .int .i64 pl, .int .i64 v4, .int .i64 v5] 27 from box_putB (box_putB BN6.out 8 (.int .i64 v4)) 9 (.int .i64 v5))
    generalize ((W6.setCell ⟨w1.heap.size, 8, none⟩ (.int .i64 v4)).setCell ⟨w1.heap.size, 9, none⟩ (.int .i64 v5)) = W7 at *
    clear d0 d1 d2 d3 d4 d5 bn6 bnf6 hn6 BN6 H16 hb6 HN4 HN5 HC
    refine Calls.mono (HOK.out _) ?_
    rintro e w8 ⟨rfl, hB⟩
    have H18 := Lib.hid (below_below H17.out hB)
    have BN8 := Lib.hid (BN7.out.below hB)
    have BX8 := Lib.hid (BX1.out.below H18.out)
    have HB8 := Lib.hid (below_below HB1.out H18.out)
    have bn8 := BN8.out.cell
    have hn8 := BN8.out.lt
    have bx8 := BX8.out.cell
    have bf8 := BX8.out.froz
    have hl8 := BX8.out.lt
    clear hB H17 BN7 HOK
    cases NB
    · have HE := Lib.hid (HN.out rfl)
      clear HO HY HN
      go_wp2_with fail
      refine bodyPost_ret (v := .tuple #[.agg #[.int .i64 0, .int .i64 0, .int .i64 0, .int .i64 0, .int .i64 0, .int .i64 0, .int .i64 0, .int .i64 0, .int .i64 0, .int .i64 0], .bool false]) (by simp [results, Tryz.results4, go_sem, bx8, hl8]) rfl ⟨node0, false, rfl, HE.out, ?_⟩
      exact below_set10 HB8.out (Nat.le_refl _) _ _ _ _ _ _ _ _ _ _
    · clear HN
      go_wp2_with fail
      refine Calls.mono (HPUT.out _) ?_
      rintro e w9 ⟨rfl, hB⟩
      have BN9 := Lib.hid (BN8.out.below hB)
      have BX9 := Lib.hid (BX8.out.below hB)
      have HB9 := Lib.hid (below_below HB8.out hB)
      have bn9 := BN9.out.cell
      have hn9 := BN9.out.lt
      have bx9 := BX9.out.cell
      have bf9 := BX9.out.froz
      have hl9 := BX9.out.lt
      clear hB bn8 hn8 bx8 bf8 hl8 BN8 BX8 HB8 H18
      by_cases hTs : T = s
      · have HE := Lib.hid (HY.out hTs)
        have hq : (T.toList == s.toList) = true := by rw [hTs]; simp
        have hq2 : (T.toList != s.toList) = false := by rw [hTs]; simp
        clear hTs HY HO
        go_wp2_with fail
        refine bodyPost_ret (v := .tuple #[.agg #[.int .i64 v0, .int .i64 v1, .int .i64 v2, .int .i64 pa, .int .i64 pb, .int .i64 ps, .int .i64 pu, .int .i64 pl, .int .i64 v4, .int .i64 v5], .bool true]) (by simp [results, Tryz.results4, go_sem, bx9, hl9]) rfl ⟨⟨v0, v1, v2, ⟨pa, pb, ps, pu, pl⟩, v4, v5⟩, true, rfl, HE.out, ?_⟩
        exact below_set10 HB9.out (Nat.le_refl _) _ _ _ _ _ _ _ _ _ _
      · have HE := Lib.hid (HO.out hTs)
        have hq := ne_text hTs
        have hq2 : (T.toList != s.toList) = true := by rw [bne, hq]; rfl
        clear hTs HY HO
        go_wp2_with fail
        refine bodyPost_ret (v := .tuple #[.agg #[.int .i64 0, .int .i64 0, .int .i64 0, .int .i64 0, .int .i64 0, .int .i64 0, .int .i64 0, .int .i64 0, .int .i64 0, .int .i64 0], .bool false]) (by simp [results, Tryz.results4, go_sem, bx9, hl9]) rfl ⟨node0, false, rfl, HE.out, ?_⟩
        exact below_set10 HB9.out (Nat.le_refl _) _ _ _ _ _ _ _ _ _ _
  · have HE := Lib.hid (nodeG_len HG.out (.inr h7))
    have h7' : ((l.length : Int) != 7) = true := by simp; omega
    clear h7
    go_wp2_with fail
    refine bodyPost_ret (v := .tuple #[.agg #[.int .i64 0, .int .i64 0, .int .i64 0, .int .i64 0, .int .i64 0, .int .i64 0, .int .i64 0, .int .i64 0, .int .i64 0, .int .i64 0], .bool false]) (by simp [results, Tryz.results4, go_sem, bx1, hl1]) rfl ⟨node0, false, rfl, HE.out, ?_⟩
    exact below_set10 HB1.out (Nat.le_refl _) _ _ _ _ _ _ _ _ _ _
theorem ptrG_ex (s : ByteArray) : ∃ p b, PtrG s p b := by
  by_cases h : ∃ q, ptrB q = true ∧ ptrL q = s.data.toList
  · obtain ⟨q, h1, h2⟩ := h
    exact ⟨q, true, .inl ⟨rfl, h1, h2⟩⟩
  · exact ⟨hole, false, .inr ⟨rfl, rfl, fun q hq he => h ⟨q, hq, he⟩⟩⟩
def n10 (xs : List ByteArray) (k : Nat) : Array Value := #[pcell xs k 0, pcell xs k 1, pcell xs k 2, .int .i64 0, .int .i64 0, .int .i64 0, .int .i64 0, .int .i64 0, .int .i64 0, .int .i64 0]
theorem n10_put {xs : List ByteArray} {k : Nat} {t : ByteArray} (hk : k < 3) (ht : xs[k]? = some t) : (n10 xs k).setIfInBounds k (.int .i64 (numV t)) = n10 xs (k + 1) := by
  rcases (show k = 0 ∨ k = 1 ∨ k = 2 by omega) with rfl | rfl | rfl <;> simp [n10, pcell, List.getD_eq_getElem?_getD, ht]
theorem n10_at {xs : List ByteArray} {k : Nat} (hk : k < 3) : (n10 xs k)[k]? = some (.int .i64 0) := by
  rcases (show k = 0 ∨ k = 1 ∨ k = 2 by omega) with rfl | rfl | rfl <;> simp [n10, pcell]
theorem n10_zero (xs : List ByteArray) : n10 xs 0 = #[.int .i64 0, .int .i64 0, .int .i64 0, .int .i64 0, .int .i64 0, .int .i64 0, .int .i64 0, .int .i64 0, .int .i64 0, .int .i64 0] := by simp [n10, pcell]
def ptrs3 (b : Nat) : Array Value := #[.pointer (some ⟨b, 0, none⟩), .pointer (some ⟨b, 1, none⟩), .pointer (some ⟨b, 2, none⟩)]
theorem ptrs3_at {b k : Nat} (hk : k < 3) : (ptrs3 b)[k]? = some (.pointer (some ⟨b, k, none⟩)) := by
  rcases (show k = 0 ∨ k = 1 ∨ k = 2 by omega) with rfl | rfl | rfl <;> rfl
structure NGRel (w1 : World) (xs : List ByteArray) (k : Nat) (wr : World) : Prop where
  node : BoxAt wr w1.heap.size (n10 xs k) 27
  ptrs : BoxAt wr (w1.heap.size + 1) (ptrs3 w1.heap.size) 41
  bel : Below w1.heap.size w1 wr
  ok : ∀ j t, j < k → xs[j]? = some t → numB t = true
theorem NGRel.below {w1 wr w' : World} {xs : List ByteArray} {k : Nat} (h : NGRel w1 xs k wr) (hB : Below wr.heap.size wr w') : NGRel w1 xs k w' :=
  ⟨h.node.below hB, h.ptrs.below hB, below_below h.bel hB, h.ok⟩
theorem NGRel.next {w1 wr : World} {xs : List ByteArray} {k : Nat} {t : ByteArray} (h : NGRel w1 xs k wr) (hk : k < 3) (ht : xs[k]? = some t) (hn : numB t = true) :
    NGRel w1 xs (k + 1) (wr.setCell ⟨w1.heap.size, k, none⟩ (.int .i64 (numV t))) := by
  refine ⟨?_, h.ptrs.set (by simp) _, below_set h.bel (Nat.le_refl _) _, fun j u hj hu => ?_⟩
  · have := box_putB h.node k (.int .i64 (numV t))
    rwa [n10_put hk ht] at this
  · rcases Nat.lt_or_ge j k with h' | h'
    · exact h.ok j u h' hu
    · obtain rfl : j = k := by omega
      rw [ht] at hu
      cases hu
      exact hn
set_option maxHeartbeats 8000000 in
theorem nodeGet_any (w : World) (s : ByteArray) (hM : MaxAt w) (hT : TenAt w) (hE : ErrAt w) (hs : s.size ≤ 1048576) : Calls Tryz.prog 5 #[.string s] w (GetNd w s) := by
  have HF := Lib.hid (fun W (hB : Below w.heap.size w W) => fieldsGet_any W s (hT.below hB) (hE.below hB) (show CutAt W from hM.below hB) hs)
  have LB := Lib.hid (And.intro hM (And.intro hT hE))
  have BX := Lib.hid (box_new w #[.int .i64 0, .int .i64 0, .int .i64 0, .int .i64 0, .int .i64 0, .int .i64 0, .int .i64 0, .int .i64 0, .int .i64 0, .int .i64 0] 27)
  have HBa := Lib.hid (below_alloc (Below.refl w.heap.size w) (.cells #[.int .i64 0, .int .i64 0, .int .i64 0, .int .i64 0, .int .i64 0, .int .i64 0, .int .i64 0, .int .i64 0, .int .i64 0, .int .i64 0] 27))
  clear hM hT hE
  go_enter Tryz.func5, Tryz.ntmps5
  go_wp2_with fail
  refine Calls.mono (HF.out _ HBa.out) ?_
  rintro e w1 ⟨v, l, b, rfl, hG, hO, hB⟩
  have HG := Lib.hid hG
  obtain ⟨A1, c1, rfl, hc1, hm1, _, hrd⟩ := hO.form
  have R1 := Lib.hid hrd
  have BX1 := Lib.hid (BX.out.below hB)
  have HB1 := Lib.hid (below_below HBa.out hB)
  have bx1 := BX1.out.cell
  have bf1 := BX1.out.froz
  have hl1 := BX1.out.lt
  clear hG hO hrd hB BX HBa HF
  cases b
  · have HE := Lib.hid (nodeG_len HG.out (.inl rfl))
    go_wp2_with fail
    refine bodyPost_ret (v := .tuple #[.agg #[.int .i64 0, .int .i64 0, .int .i64 0, .int .i64 0, .int .i64 0, .int .i64 0, .int .i64 0, .int .i64 0, .int .i64 0, .int .i64 0], .bool false]) (by simp [results, Tryz.results5, go_sem, bx1, hl1]) rfl ⟨node0, false, rfl, HE.out, ?_⟩
    exact below_set10 HB1.out (Nat.le_refl _) _ _ _ _ _ _ _ _ _ _
  by_cases h7 : l.length = 7
  · obtain ⟨f0, f1, f2, f3, f4, f5, f6, rfl⟩ := seven_of h7
    have hlen : ([f0, f1, f2, f3, f4, f5, f6] : List ByteArray).length = 7 := rfl
    have HSZ := Lib.hid (rec_sizes HG.out hs)
    obtain ⟨b, off, rfl, hcs⟩ := R1.out (by simp)
    have hcc : 7 ≤ c1 := hc1
    have hb := hcs.1
    have HCS := Lib.hid hcs
    obtain ⟨px, bx, hpx⟩ := ptrG_ex f3
    have HPX := Lib.hid hpx
    have hk1 : BoxAt ((w1.alloc (.cells #[.int .i64 0, .int .i64 0, .int .i64 0, .int .i64 0, .int .i64 0, .int .i64 0, .int .i64 0, .int .i64 0, .int .i64 0, .int .i64 0] 27)).alloc (.cells #[.pointer (some ⟨w1.heap.size, 0, none⟩), .pointer (some ⟨w1.heap.size, 1, none⟩), .pointer (some ⟨w1.heap.size, 2, none⟩)] 41)) (w1.heap.size + 1) #[.pointer (some ⟨w1.heap.size, 0, none⟩), .pointer (some ⟨w1.heap.size, 1, none⟩), .pointer (some ⟨w1.heap.size, 2, none⟩)] 41 := by
      have := box_new (w1.alloc (.cells #[.int .i64 0, .int .i64 0, .int .i64 0, .int .i64 0, .int .i64 0, .int .i64 0, .int .i64 0, .int .i64 0, .int .i64 0, .int .i64 0] 27)) #[.pointer (some ⟨w1.heap.size, 0, none⟩), .pointer (some ⟨w1.heap.size, 1, none⟩), .pointer (some ⟨w1.heap.size, 2, none⟩)] 41
      rwa [World.size_alloc] at this
    have HR := Lib.hid (show NGRel w1 [f0, f1, f2, f3, f4, f5, f6] 0 ((w1.alloc (.cells #[.int .i64 0, .int .i64 0, .int .i64 0, .int .i64 0, .int .i64 0, .int .i64 0, .int .i64 0, .int .i64 0, .int .i64 0, .int .i64 0] 27)).alloc (.cells #[.pointer (some ⟨w1.heap.size, 0, none⟩), .pointer (some ⟨w1.heap.size, 1, none⟩), .pointer (some ⟨w1.heap.size, 2, none⟩)] 41)) from
      ⟨by rw [n10_zero]; exact (box_new w1 _ _).alloc _, hk1, below_alloc (below_alloc (Below.refl _ _) _) _, fun j t hj => by omega⟩)
    clear hcs R1 h7 hc1 hlen hpx hk1 bx1 bf1
    go_wp2_with fail
    go_loopw [27] (fun y wr => ∃ k : Nat, k ≤ 3 ∧ y = .int .i64 k ∧ Hid (NGRel w1 [f0, f1, f2, f3, f4, f5, f6] k wr)) (fun y _ => 3 - (intOf y).toNat)
    case atStart => exact ⟨0, Nat.zero_le _, rfl, HR⟩
    case round =>
      clear HR
      obtain ⟨k, hk3, rfl, HGR⟩ := hrel
      by_cases hlt : k < 3
      · obtain ⟨t, ht⟩ : ∃ t, ([f0, f1, f2, f3, f4, f5, f6] : List ByteArray)[k]? = some t := ⟨_, List.getElem?_eq_getElem (by simp; omega)⟩
        have hW := HGR.out.bel
        have HBw := Lib.hid (below_below HB1.out hW)
        have ct : wr.cell? ⟨b, off + k, none⟩ = some (.string t) := by
          have := ((bcell hW).1 b (off + k * 1 + 0) hb).trans (HCS.out.2 k t ht 0 (by omega))
          simpa [encS] using this
        have cp : wr.cell? ⟨w1.heap.size + 1, k, none⟩ = some (.pointer (some ⟨w1.heap.size, k, none⟩)) := (HGR.out.ptrs.cell k).trans (ptrs3_at hlt)
        have hwb : b < wr.heap.size := Nat.lt_of_lt_of_le hb hW.size
        have HN := Lib.hid (numGet_any t wr (LB.out.2.1.below HBw.out) (LB.out.2.2.below HBw.out) (by have := HSZ.out t (List.mem_of_getElem? ht); omega))
        have HE := Lib.hid (fun (hn : numB t = false) => (show NodeG s node0 false from nodeG_bad HG.out HPX.out (by
          rcases (show k = 0 ∨ k = 1 ∨ k = 2 by omega) with rfl | rfl | rfl
          · cases ht; exact .inl hn
          · cases ht; exact .inr (.inl hn)
          · cases ht; exact .inr (.inr (.inl hn)))))
        have HNX := Lib.hid (fun wx (h : NGRel w1 [f0, f1, f2, f3, f4, f5, f6] k wx) hn => h.next hlt ht hn)
        have k2 : IntKind.i64.wrap ((k : Int) + 1) = (k : Int) + 1 := IntWalk.i64_in _ (by omega)
        clear ht HSZ HG HPX HCS hW
        generalize numV t = V at *
        generalize numB t = B at *
        go_wp2_with fail
        refine Calls.mono HN.out ?_
        rintro e w5 ⟨rfl, hB⟩
        have HG5 := Lib.hid (HGR.out.below hB)
        have cp5 : w5.cell? ⟨w1.heap.size + 1, k, none⟩ = some (.pointer (some ⟨w1.heap.size, k, none⟩)) := (HG5.out.ptrs.cell k).trans (ptrs3_at hlt)
        have e2 : w5.cell? ⟨w1.heap.size, k, none⟩ = some (.int .i64 0) := (HG5.out.node.cell k).trans (n10_at hlt)
        have e3 : w5.frozen? ⟨w1.heap.size, k, none⟩ = false := HG5.out.node.froz k
        clear hB HGR HN ct cp hwb
        cases B
        · replace HE := Lib.hid (HE.out rfl)
          clear HNX
          have hB6 := below_set HG5.out.bel (p := ⟨w1.heap.size, k, none⟩) (Nat.le_refl _) (.int .i64 V)
          have BX6 := Lib.hid (BX1.out.below hB6)
          have HB6 := Lib.hid (below_below HB1.out hB6)
          have bx5 := (BX1.out.below HG5.out.bel).cell
          have bf5 := (BX1.out.below HG5.out.bel).froz
          have hl5 := (BX1.out.below HG5.out.bel).lt
          have bx6 := BX6.out.cell
          have hne : ¬ w.heap.size = w1.heap.size := by omega
          have hne' : ¬ w1.heap.size = w.heap.size := by omega
          clear hB6
          go_wp2_with fail
          refine bodyPost_ret (v := .tuple #[.agg #[.int .i64 0, .int .i64 0, .int .i64 0, .int .i64 0, .int .i64 0, .int .i64 0, .int .i64 0, .int .i64 0, .int .i64 0, .int .i64 0], .bool false]) (by simp [results, Tryz.results5, go_sem, bx6, hl5]) rfl ⟨node0, false, rfl, HE.out, ?_⟩
          exact below_set10 HB6.out (Nat.le_refl _) _ _ _ _ _ _ _ _ _ _
        · replace HNX := Lib.hid (fun wx h => HNX.out wx h rfl)
          clear HE
          go_wp2_with fail
          exact ⟨⟨k + 1, by omega, rfl, Lib.hid (HNX.out _ HG5.out)⟩, by simp [intOf]; omega⟩
      · obtain rfl : k = 3 := by omega
        have H15 := Lib.hid HGR.out.bel
        have BN5 := Lib.hid (show BoxAt wr w1.heap.size #[.int .i64 (numV f0), .int .i64 (numV f1), .int .i64 (numV f2), .int .i64 0, .int .i64 0, .int .i64 0, .int .i64 0, .int .i64 0, .int .i64 0, .int .i64 0] 27 from HGR.out.node)
        have HB5 := Lib.hid (below_below HB1.out H15.out)
        have HTO := Lib.hid (treeOf_any wr b (off + 3) (c1 - 3) f3 f4 f5 ⟨Nat.lt_of_lt_of_le hb H15.out.size, fun i x hx j hj => by
          obtain rfl : j = 0 := by omega
          rcases i with _ | _ | _ | i
          · cases hx; exact ((bcell H15.out).1 b _ hb).trans (HCS.out.2 3 _ rfl 0 (by omega))
          · cases hx; exact ((bcell H15.out).1 b _ hb).trans (HCS.out.2 4 _ rfl 0 (by omega))
          · cases hx; exact ((bcell H15.out).1 b _ hb).trans (HCS.out.2 5 _ rfl 0 (by omega))
          · simp at hx⟩ (by omega) (LB.out.1.below HB5.out) (LB.out.2.1.below HB5.out) (LB.out.2.2.below HB5.out) (HSZ.out f3 (by simp)) (HSZ.out f4 (by simp)) (HSZ.out f5 (by simp)))
        clear HGR HCS HSZ HPX
        have k3 : (3 : Int) ≤ (c1 : Int) := by omega
        have k6 : (6 : Int) ≤ (c1 : Int) := by omega
        have k3' : 3 ≤ c1 := by omega
        have k6' : 6 ≤ c1 := by omega
        have bn5 := BN5.out.cell
        have bnf5 := BN5.out.froz
        have hn5 := BN5.out.lt
        clear hlt hk3
        go_wp2_with fail
        refine Calls.mono HTO.out ?_
        rintro e w5 ⟨p, bp, rfl, hG3, hB⟩
        have HBAD := Lib.hid (fun (h : (bp && (numB f4 && numB f5)) = false) => (show NodeG s node0 false from nodeG_bad HG.out hG3 (by
          cases h1 : bp
          · exact .inr (.inr (.inr (.inl rfl)))
          · cases h2 : numB f4
            · exact .inr (.inr (.inr (.inr (.inl rfl))))
            · rw [h1, h2] at h; exact .inr (.inr (.inr (.inr (.inr h)))))))
        have HO := Lib.hid (nodeG_other HG.out hG3)
        have HY := Lib.hid (fun h => nodeG_some (p := p) HG.out h)
        have HPUT := Lib.hid (fun W (hB : Below w.heap.size w W) => nodePut_any W ⟨numV f0, numV f1, numV f2, p, numV f4, numV f5⟩ (LB.out.2.1.below hB))
        obtain ⟨pa, pb, ps, pu, pl⟩ := p
        unfold Nd.v at HPUT
        dsimp only at HPUT ⊢
        generalize (bp && (numB f4 && numB f5)) = C at *
        generalize nodeT ⟨numV f0, numV f1, numV f2, ⟨pa, pb, ps, pu, pl⟩, numV f4, numV f5⟩ = T at *
        generalize numV f0 = v0 at *
        generalize numV f1 = v1 at *
        generalize numV f2 = v2 at *
        generalize numV f4 = v4 at *
        generalize numV f5 = v5 at *
        have H16 := Lib.hid (below_below H15.out hB)
        have BN6 := Lib.hid (BN5.out.below hB)
        have H17 := Lib.hid (below_set (below_set (below_set5G H16.out (b := w1.heap.size) (Nat.le_refl _) 3 4 5 6 7 (.int .i64 pa) (.int .i64 pb) (.int .i64 ps) (.int .i64 pu) (.int .i64 pl)) (p := ⟨w1.heap.size, 8, none⟩) (Nat.le_refl _) (.int .i64 v4)) (p := ⟨w1.heap.size, 9, none⟩) (Nat.le_refl _) (.int .i64 v5))
        have BN7 := Lib.hid (show BoxAt (((((((w5.setCell ⟨w1.heap.size, 3, none⟩ (.int .i64 pa)).setCell ⟨w1.heap.size, 4, none⟩ (.int .i64 pb)).setCell ⟨w1.heap.size, 5, none⟩ (.int .i64 ps)).setCell ⟨w1.heap.size, 6, none⟩ (.int .i64 pu)).setCell ⟨w1.heap.size, 7, none⟩ (.int .i64 pl)).setCell ⟨w1.heap.size, 8, none⟩ (.int .i64 v4)).setCell ⟨w1.heap.size, 9, none⟩ (.int .i64 v5)) w1.heap.size #[.int .i64 v0, .int .i64 v1, .int .i64 v2, .int .i64 pa, .int .i64 pb, .int .i64 ps, .int .i64 pu, .int .i64 pl, .int .i64 v4, .int .i64 v5] 27 from box_putB (box_putB (box_putB (box_putB (box_putB (box_putB (box_putB BN6.out 3 (.int .i64 pa)) 4 (.int .i64 pb)) 5 (.int .i64 ps)) 6 (.int .i64 pu)) 7 (.int .i64 pl)) 8 (.int .i64 v4)) 9 (.int .i64 v5))
        have bn6 := BN6.out.cell
        have bnf6 := BN6.out.froz
        have hn6 := BN6.out.lt
        have hne : ¬ w.heap.size = w1.heap.size := by omega
        have hne' : ¬ w1.heap.size = w.heap.size := by omega
        clear hG3 hB bn5 bnf5 hn5 BN5 H15 HTO HG
        cases C
        · replace HBAD := Lib.hid (HBAD.out rfl)
          have BX6 := Lib.hid (BX1.out.below H16.out)
          have BX7 := Lib.hid (BX1.out.below H17.out)
          have HB7 := Lib.hid (below_below HB1.out H17.out)
          have bx6 := BX6.out.cell
          have bf6 := BX6.out.froz
          have hl6 := BX6.out.lt
          clear HO HY HPUT BN7
          go_wp2_with fail
          refine bodyPost_ret (v := .tuple #[.agg #[.int .i64 0, .int .i64 0, .int .i64 0, .int .i64 0, .int .i64 0, .int .i64 0, .int .i64 0, .int .i64 0, .int .i64 0, .int .i64 0], .bool false]) (by simp [results, Tryz.results5, go_sem, bx6, hl6]) rfl ⟨node0, false, rfl, HBAD.out, ?_⟩
          exact below_set10 HB7.out (Nat.le_refl _) _ _ _ _ _ _ _ _ _ _
        · clear HBAD
          have HB7 := Lib.hid (below_below HB1.out H17.out)
          have bn7 := BN7.out.cell
          have hn7 := BN7.out.lt
          go_wp2_with fail
          refine Calls.mono (HPUT.out _ HB7.out) ?_
          generalize (((((((w5.setCell ⟨w1.heap.size, 3, none⟩ (.int .i64 pa)).setCell ⟨w1.heap.size, 4, none⟩ (.int .i64 pb)).setCell ⟨w1.heap.size, 5, none⟩ (.int .i64 ps)).setCell ⟨w1.heap.size, 6, none⟩ (.int .i64 pu)).setCell ⟨w1.heap.size, 7, none⟩ (.int .i64 pl)).setCell ⟨w1.heap.size, 8, none⟩ (.int .i64 v4)).setCell ⟨w1.heap.size, 9, none⟩ (.int .i64 v5)) = W7 at *
          rintro e w8 ⟨rfl, hB⟩
          have H18 := Lib.hid (below_below H17.out hB)
          have BN8 := Lib.hid (BN7.out.below hB)
          have BX8 := Lib.hid (BX1.out.below H18.out)
          have HB8 := Lib.hid (below_below HB1.out H18.out)
          have bn8 := BN8.out.cell
          have hn8 := BN8.out.lt
          have bx8 := BX8.out.cell
          have bf8 := BX8.out.froz
          have hl8 := BX8.out.lt
          clear hB bn7 hn7 bn6 bnf6 hn6 BN6 BN7 H16 H17 HB7 HPUT
          by_cases hTs : T = s
          · have HE := Lib.hid (HY.out hTs)
            have hq : (T.toList == s.toList) = true := by rw [hTs]; simp
            have hq2 : (T.toList != s.toList) = false := by rw [hTs]; simp
            clear hTs HY HO
            go_wp2_with fail
            refine bodyPost_ret (v := .tuple #[.agg #[.int .i64 v0, .int .i64 v1, .int .i64 v2, .int .i64 pa, .int .i64 pb, .int .i64 ps, .int .i64 pu, .int .i64 pl, .int .i64 v4, .int .i64 v5], .bool true]) (by simp [results, Tryz.results5, go_sem, bx8, hl8]) rfl ⟨⟨v0, v1, v2, ⟨pa, pb, ps, pu, pl⟩, v4, v5⟩, true, rfl, HE.out, ?_⟩
            exact below_set10 HB8.out (Nat.le_refl _) _ _ _ _ _ _ _ _ _ _
          · have HE := Lib.hid (HO.out hTs)
            have hq := ne_text hTs
            have hq2 : (T.toList != s.toList) = true := by rw [bne, hq]; rfl
            clear hTs HY HO
            go_wp2_with fail
            refine bodyPost_ret (v := .tuple #[.agg #[.int .i64 0, .int .i64 0, .int .i64 0, .int .i64 0, .int .i64 0, .int .i64 0, .int .i64 0, .int .i64 0, .int .i64 0, .int .i64 0], .bool false]) (by simp [results, Tryz.results5, go_sem, bx8, hl8]) rfl ⟨node0, false, rfl, HE.out, ?_⟩
            exact below_set10 HB8.out (Nat.le_refl _) _ _ _ _ _ _ _ _ _ _
  · have HE := Lib.hid (nodeG_len HG.out (.inr h7))
    have h7' : ((l.length : Int) != 7) = true := by simp; omega
    clear h7
    go_wp2_with fail
    refine bodyPost_ret (v := .tuple #[.agg #[.int .i64 0, .int .i64 0, .int .i64 0, .int .i64 0, .int .i64 0, .int .i64 0, .int .i64 0, .int .i64 0, .int .i64 0, .int .i64 0], .bool false]) (by simp [results, Tryz.results5, go_sem, bx1, hl1]) rfl ⟨node0, false, rfl, HE.out, ?_⟩
    exact below_set10 HB1.out (Nat.le_refl _) _ _ _ _ _ _ _ _ _ _

end Go.Proofs.YthedmiippfpbnaaGreatDoor
