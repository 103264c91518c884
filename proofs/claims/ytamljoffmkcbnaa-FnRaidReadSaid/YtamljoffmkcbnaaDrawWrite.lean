/- What is drawn is written: one write waits, on each disk; and what waits is done. -/
import Derived.Test.YtamljoffmkcbnaaRaidNew
import Derived.Test.YtamljoffmkcbnaaDrawCut
import Derived.Test.YtamljoffmkcbnaaFlush
import Derived.Test.YtamljoffmkcbnaaDisk
import Derived.Test.YtamljoffmkcbnaaDiskS
import Derived.StillTailTactics
import Derived.Deep.RegionHeld3
namespace Go.Proofs.Ytamljoffmkcbnaa
open Go.RowKit Go.Sort
set_option maxRecDepth 100000
set_option linter.unusedVariables false
set_option linter.unusedSimpArgs false

theorem oneW : OneC encW := fun x j => by
  rcases j with _ | j <;> rfl
theorem info_waitD : (Try.prog.info? 75).map (fun i => (i.zero, i.size, i.bytes)) = some (some (.agg #[.int .i64 0, .string ⟨#[]⟩]), 2, 24) := by kernel_rfl
theorem elW : El 49 75 2 24 := El.mk' Try.underlying49 info_waitD rfl (by omega)
theorem rd_oneWAt (w : World) (z : Int) (s : ByteArray) {k : Nat} (h : k = w.heap.size) : RdT encW 2 (w.alloc (.cells #[.int .i64 z, .string s] 75)) (some ⟨k, 0, none⟩) [(⟨z, s⟩ : Wt)] := fun _ => ⟨k, 0, rfl, by subst h; simp, fun i y hy j hj => by
  subst h
  have : i = 0 := by
    rcases i with _ | i
    · rfl
    · simp at hy
  subst this
  simp at hy
  subst hy
  have hb := box_new w #[.int .i64 z, .string s] 75
  rw [hb.cell]
  match j, hj with
  | 0, _ => rfl
  | 1, _ => rfl⟩

/-- A disk written on. -/
def WrD (base m : Nat) (w : World) (e : Ending) (w' : World) : Prop := ∃ x : DA, e = .returned (.tuple #[x.v, .bool true]) ∧ DI base m w' x ∧ x.g = false ∧ Below w.heap.size w w'

theorem di_wr {base m : Nat} {w w9 : World} {C W : Option Addr} {nC cC cW g c : Nat} {ws : List Wt} {y : Wt} (hl : ws.length ≤ m) (HI : DI base m w ⟨C, nC, cC, W, ws.length, cW, false⟩) (HZ : ∀ y ∈ ws, inB y.at_ 0 63 = true ∧ y.text.size ≤ 1000) (hb : base ≤ w.heap.size) (HB : Below w.heap.size w w9)
    (ho : Own encW 2 75 w.heap.size w9 (.slice (some ⟨g, 0, none⟩) (ws ++ [y]).length c) (ws ++ [y])) (hy : inB y.at_ 0 63 = true ∧ y.text.size ≤ 1000) : DI base (m + 1) w9 ⟨C, nC, cC, some ⟨g, 0, none⟩, (ws ++ [y]).length, c, false⟩ := by
  have h9 := HI.ks (KS.below HB)
  obtain ⟨A, c', e, h1, h2, h3, hr⟩ := ho.form
  injection e with e1 e2 e3
  subst e1
  subst e3
  exact ⟨h9.c, h9.nC, h9.cC, ⟨ws ++ [y], hr, rfl, fun z hz => by
    rcases List.mem_append.1 hz with hz | hz
    · exact HZ z hz
    · simp at hz; rw [hz]; exact hy⟩, h1, h2, by simp; omega, fun a ha => by cases ha; exact ⟨by have := own_from ho; dsimp only; omega, own_tag ho⟩⟩

set_option maxHeartbeats 4000000 in
theorem l3Write_any (w : World) (base m : Nat) (x : DA) (at_ : Nat) (s : ByteArray) (h : DI base m w x) (hg : x.g = false) (hm : m < 100) (hb : base ≤ w.heap.size) (ha : at_ < 64) (hs : s.size ≤ 200) :
    Calls Try.prog 91 #[x.v, .int .i64 at_, .string s] w (WrD base (m + 1) w) := by
  obtain ⟨C, nC, cC, W, nW, cW, g⟩ := x
  dsimp only at hg
  subst hg
  have HC := Lib.hid (fun W' => l3Cell_any (at_ : Int) W')
  rw [show inB (at_ : Int) 0 63 = true from inB_mk (by omega) (by omega)] at HC
  have HI := Lib.hid h
  obtain ⟨ws, hr, hl, hz⟩ := h.wt
  dsimp only at hl
  subst hl
  have hW := h.hW
  have mW := h.mW
  have hm1 := h.m
  dsimp only at hW mW hm1
  have HR := Lib.hid hr
  have HZ := Lib.hid hz
  clear h hr hz
  unfold DA.v
  dsimp only
  have HB0 := Lib.hid (below_alloc (below_alloc (Below.refl w.heap.size w) (.cells #[.slice C nC cC, .slice W ws.length cW, .bool false] 51)) (.cells #[.slice none 0 0, .slice none 0 0, .bool false] 51))
  have BX0 := Lib.hid ((box_new w #[.slice C nC cC, .slice W ws.length cW, .bool false] 51).alloc (.cells #[.slice none 0 0, .slice none 0 0, .bool false] 51))
  have BR0 := box_new (w.alloc (.cells #[.slice C nC cC, .slice W ws.length cW, .bool false] 51)) #[.slice none 0 0, .slice none 0 0, .bool false] 51
  rw [World.size_alloc] at BR0
  replace BR0 := Lib.hid BR0
  have i120 : (ws.length : Int) < 120 := by omega
  have i120b : ¬ (120 : Int) ≤ (ws.length : Int) := by omega
  have i200 : ¬ (200 : Int) < (s.size : Int) := by omega
  go_enter Try.func91, Try.ntmps91
  go_wp2_with fail
  refine Calls.mono (HC.out _) ?_
  rintro e w1 ⟨rfl, rfl⟩
  have OE := Own.empty (enc := encW) (sz := 2) (T := 75) (base := w.heap.size) (w := (w.alloc (.cells #[.slice C nC cC, .slice W ws.length cW, .bool false] 51)).alloc (.cells #[.slice none 0 0, .slice none 0 0, .bool false] 51)) (by simp; omega)
  simp only [World.size_alloc] at OE
  replace OE := Lib.hid OE
  have HR1 := Lib.hid ((HR.out.below HB0.out).below (below_alloc (Below.refl _ _) (.cells #[] 75)))
  have HB1 := Lib.hid (below_alloc HB0.out (.cells #[] 75))
  have BX1 := Lib.hid (BX0.out.alloc (.cells #[] 75))
  have BR1 := Lib.hid (BR0.out.alloc (.cells #[] 75))
  have KA := Lib.hid (And.intro (show (([] : List Wt).length + ws.length) * 24 ≤ 140737488355328 by simp; omega) (show ([] : List Wt).length + ws.length ≤ maxLen by unfold maxLen; simp; omega))
  have KB := Lib.hid (And.intro (show (([] ++ ws).length + 1) * 24 ≤ 140737488355328 by simp; omega) (show ([] ++ ws).length + 1 ≤ maxLen by unfold maxLen; simp; omega))
  have HWL := Lib.hid (rfl : ws.length = ws.length)
  clear HR BX0 BR0 HB0
  go_wp2_with (first
    | (at_builtin; have _g := O4; clear _g; refine wpList_app (base := w.heap.size) (xs := [] ++ ws) (ys := ([⟨(at_ : Int), s⟩] : List Wt)) elW rfl _ _ rfl (by rfl) (O4.out.below (below_alloc (Below.refl _ _) _)) (by rfl) rfl (rd_oneWAt w4 at_ s rfl) oneW KB.out.1 KB.out.2 (below_alloc HB4.out _).size ?_; intro v5 w5 ho5 hg5 ha5; obtain ⟨g5, c5, rfl⟩ := own_block ho5 (by simp); have O5 := Lib.hid ho5; have OA := Lib.hid (O4.out.below (below_alloc (Below.refl _ _) (.cells #[.int .i64 (at_ : Int), .string s] 75))); have BX5 := Lib.hid ((BX4.out.alloc (.cells #[.int .i64 (at_ : Int), .string s] 75)).grownT OA.out hg5 (by decide)); have BR5 := Lib.hid ((BR4.out.alloc (.cells #[.int .i64 (at_ : Int), .string s] 75)).grownT OA.out hg5 (by decide)); have HB5 := Lib.hid ((below_alloc HB4.out (.cells #[.int .i64 (at_ : Int), .string s] 75)).grown hg5 (below_alloc HB4.out (.cells #[.int .i64 (at_ : Int), .string s] 75)).size (own_baseD OA.out)); have bx5 := BX5.out.cell; have bf5 := BX5.out.froz; have bl5 := BX5.out.lt; have br5 := BR5.out.cell; have brf5 := BR5.out.froz; have brl5 := BR5.out.lt; clear ho5 hg5 ha5)
    | (at_builtin; refine wpList_app (base := w.heap.size) (ys := ws) elW rfl _ _ rfl (by rfl) OE.out (by rfl) rfl HR1.out oneW KA.out.1 KA.out.2 HB1.out.size ?_; intro v4 w4 ho4 hg4 ha4; have O4 := Lib.hid ho4; have BX4 := Lib.hid (BX1.out.grownT OE.out hg4 (by decide)); have BR4 := Lib.hid (BR1.out.grownT OE.out hg4 (by decide)); have HB4 := Lib.hid (HB1.out.grown hg4 HB1.out.size (own_baseD OE.out)); clear ho4 hg4 ha4))
  have hne : ¬ w.heap.size + 1 = w.heap.size := by omega
  have O6 := O5.out
  rw [List.nil_append] at O6
  have hlen : (ws ++ [(⟨(at_ : Int), s⟩ : Wt)]).length = ws.length + 1 := by simp
  refine bodyPost_ret (v := .tuple #[.agg #[.slice C nC cC, .slice (some ⟨g5, 0, none⟩) (ws.length + 1) c5, .bool false], .bool true]) (by simp [results, Try.results91, go_sem, br5, brl5, bx5, bl5]) rfl ?_
  have K := ((((Kp.refl [w.heap.size, w.heap.size + 1] w5).setCell (p := ⟨w.heap.size, 1, none⟩) (.inl (by simp)) (.slice (some ⟨g5, 0, none⟩) (ws.length + 1) c5)).setCell (p := ⟨w.heap.size + 1, 0, none⟩) (.inl (by simp)) (.slice C nC cC)).setCell (p := ⟨w.heap.size + 1, 1, none⟩) (.inl (by simp)) (.slice (some ⟨g5, 0, none⟩) (ws.length + 1) c5)).setCell (p := ⟨w.heap.size + 1, 2, none⟩) (.inl (by simp)) (.bool false)
  have hBF := below_kp HB5.out K (by simp)
  have n1 := own_ne O6 BX5.out (by decide)
  have n2 := own_ne O6 BR5.out (by decide)
  have hd := di_wr (y := ⟨(at_ : Int), s⟩) hm1 HI.out HZ.out hb hBF (own_one O6 K (by simp; omega)) ⟨inB_mk (by dsimp only; omega) (by dsimp only; omega), (by dsimp only; omega)⟩
  rw [hlen] at hd
  exact ⟨_, rfl, hd, rfl, hBF⟩

theorem SS.fresh {base : Nat} {ex : List Nat} {w w' : World} {b j : Nat} {u : Value} {T : TypeId} (h : SS base ex w w') (hb : base ≤ w.heap.size) (hn : w.heap.size ≤ b) (ht : Tag w' b T) (hT : T ≠ 9) : SS base ex w (w'.setCell ⟨b, j, none⟩ u) :=
  ⟨h.bel.setCell (by show base ≤ b; omega) _, fun c hc => (h.str c hc).keep (Below.heap_setCell _ _ _ _ (fun e => hT (ht.one (by have := (h.str c hc).tag; rw [(show c = b from e)] at this; exact this)))), fun c T' hc => (h.tag c T' hc).set b j u,
    fun c T' hc hne hx => (Below.heap_setCell _ _ _ _ (fun e => by have := hc.lt; have e' : c = b := e; omega)).trans (h.oth c T' hc hne hx)⟩
theorem SS.alloc {base : Nat} {ex : List Nat} {w w' : World} (h : SS base ex w w') (o : Obj) (hb : base ≤ w'.heap.size) : SS base ex w (w'.alloc o) := h.trans (SS.of_below hb (below_alloc (Below.refl _ _) o))
theorem di_row {base m : Nat} {w w' : World} {x : DA} {ws : List Wt} (_h : DI base m w' x) (hr : RdT encW 2 w x.W ws) (hs : SS base [] w w') (tg : ∀ a, x.W = some a → base ≤ a.block ∧ Tag w a.block 75) : RdT encW 2 w' x.W ws := fun hn => by
  obtain ⟨c, off, e, hlt, hr⟩ := hr hn
  have ht := (tg _ e).2
  have hb' := hs.oth c _ ht (by decide) (by simp)
  exact ⟨c, off, e, (hs.tag _ _ ht).lt, fun i y hy j hj => (World.cell?_of_block (w := w) (a := ⟨c, _, none⟩) hb').trans (hr i y hy j hj)⟩
/-- A disk of which nothing waits. -/
def FlD (base : Nat) (g : Bool) (w : World) (e : Ending) (w' : World) : Prop := ∃ x : DA, e = .returned x.v ∧ DI base 0 w' x ∧ x.g = g ∧ SS base [] w w'

set_option maxHeartbeats 4000000 in
theorem l3Flush_any (w : World) (base m : Nat) (x : DA) (h : DI base m w x) (hm : m < 100000) (hb : base ≤ w.heap.size) : Calls Try.prog 69 #[x.v] w (FlD base x.g w) := by
  obtain ⟨C, nC, cC, W, nW, cW, g⟩ := x
  obtain ⟨⟨cb, hC, hcb, hst⟩, hnC, hcC, ⟨ws, hr, hl, hz⟩, hW, mW, hm1, htg⟩ := h
  dsimp only at *
  subst hC
  subst hnC
  subst hcC
  subst hl
  have HST := Lib.hid hst
  have HR := Lib.hid hr
  have HZ := Lib.hid hz
  have HTG := Lib.hid htg
  clear hst hr hz htg
  unfold DA.v
  dsimp only
  have BX0 := Lib.hid ((box_new w #[.slice (some ⟨cb, 0, none⟩) 64 64, .slice W ws.length cW, .bool g] 51).alloc (.cells #[.slice none 0 0, .slice none 0 0, .bool false] 51))
  have BR0 := box_new (w.alloc (.cells #[.slice (some ⟨cb, 0, none⟩) 64 64, .slice W ws.length cW, .bool g] 51)) #[.slice none 0 0, .slice none 0 0, .bool false] 51
  rw [World.size_alloc] at BR0
  replace BR0 := Lib.hid BR0
  have S0 := Lib.hid (show SS base [] w ((w.alloc (.cells #[.slice (some ⟨cb, 0, none⟩) 64 64, .slice W ws.length cW, .bool g] 51)).alloc (.cells #[.slice none 0 0, .slice none 0 0, .bool false] 51)) from SS.of_below hb (below_alloc (below_alloc (Below.refl _ _) _) _))
  go_enter Try.func69, Try.ntmps69
  go_wp2_with fail
  go_loopw [3] (fun i wr => ∃ k : Nat, k ≤ ws.length ∧ i = .int .i64 k ∧ Hid (BoxAt wr w.heap.size #[.slice (some ⟨cb, 0, none⟩) 64 64, .slice W ws.length cW, .bool g] 51) ∧ Hid (BoxAt wr (w.heap.size + 1) #[.slice none 0 0, .slice none 0 0, .bool false] 51) ∧ Hid (SS base [] w wr)) (fun i _ => ws.length - (intOf i).toNat)
  case atStart => exact ⟨0, Nat.zero_le _, rfl, BX0, BR0, S0⟩
  case round =>
    clear BX0 BR0 S0
    obtain ⟨k, hk, rfl, HX, HRB, HS⟩ := hrel
    have bx := HX.out.cell
    have bl := HX.out.lt
    have hst1 := HS.out.str _ HST.out
    have ne1 : w.heap.size ≠ cb := fun e => by
      have := (Tag.box HX.out).one (e ▸ hst1.tag)
      exact absurd this (by decide)
    have ne2 : w.heap.size + 1 ≠ cb := fun e => by
      have := (Tag.box HRB.out).one (e ▸ hst1.tag)
      exact absurd this (by decide)
    by_cases hlt : k < ws.length
    · have hrw : RdT encW 2 wr W ws := ((show DI base ws.length w ⟨some ⟨cb, 0, none⟩, 64, 64, W, ws.length, cW, g⟩ from ⟨⟨cb, rfl, hcb, HST.out⟩, rfl, rfl, ⟨ws, HR.out, rfl, HZ.out⟩, hW, mW, Nat.le_refl _, HTG.out⟩).ss HS.out |> fun d => di_row d HR.out HS.out HTG.out)
      obtain ⟨b, off, z, s, rfl, hbk, he, c0, c1⟩ := hrw.wait hlt
      obtain ⟨hz1, hz2⟩ := HZ.out _ (List.mem_of_getElem? he)
      dsimp only at hz1 hz2
      obtain ⟨z0, z1⟩ := inB_true hz1
      obtain ⟨q, rfl⟩ : ∃ q : Nat, z = (q : Int) := ⟨z.toNat, by omega⟩
      have hq : q < 64 := by omega
      have hq3 : (q : Int) < 64 := by omega
      have k2 : IntKind.i64.wrap ((k : Int) + 1) = (k : Int) + 1 := IntWalk.i64_in _ (by omega)
      obtain ⟨s0, hs0, _, hf0⟩ := hst1.cell q hq
      have HST1 := Lib.hid hst1
      clear he hz1 z0 z1 hst1 hrw
      go_wp2_with fail
      go_still_tail 15, (by kernel_rfl)
      go_wp2_with fail
      go_roundw
      case rel => exact ⟨k + 1, by omega, by go_num, Lib.hid ((HX.out.set (p := ⟨cb, q, none⟩) ne1 _).drew), Lib.hid ((HRB.out.set (p := ⟨cb, q, none⟩) ne2 _).drew), Lib.hid ((HS.out.trans (SS.setS HST1.out hcb hq (by omega))).drew)⟩
      case measure => simp [intOf]; omega
    · obtain rfl : k = ws.length := by omega
      have br := HRB.out.cell
      have brf := HRB.out.froz
      have brl := HRB.out.lt
      have bf := HX.out.froz
      have HST1 := Lib.hid hst1
      clear HR HZ HTG hst1 hlt hk
      generalize ws.length = n at *
      go_wp2_with fail
      refine bodyPost_ret (v := .agg #[.slice (some ⟨cb, 0, none⟩) 64 64, .slice (some ⟨wr.heap.size, 0, none⟩) 0 0, .bool g]) (by simp [results, Try.results69, go_sem, br, brl, bx, bl]) rfl ?_
      have t1 := (Tag.box HX.out)
      have t2 := (Tag.box HRB.out)
      have s1 := SS.fresh (j := 1) (u := .slice (some ⟨wr.heap.size, 0, none⟩) 0 0) HS.out hb (Nat.le_refl _) t1 (by decide)
      have s2 := SS.fresh (j := 0) (u := .slice (some ⟨cb, 0, none⟩) 64 64) s1 hb (Nat.le_succ _) (t2.set _ _ _) (by decide)
      have s3 := SS.fresh (j := 1) (u := .slice (some ⟨wr.heap.size, 0, none⟩) 0 0) s2 hb (Nat.le_succ _) ((t2.set _ _ _).set _ _ _) (by decide)
      have s4 := SS.fresh (j := 2) (u := .bool g) s3 hb (Nat.le_succ _) (((t2.set _ _ _).set _ _ _).set _ _ _) (by decide)
      have s5 := s4.alloc (.cells #[] 75) (by simp only [World.size_setCell]; omega)
      refine ⟨⟨some ⟨cb, 0, none⟩, 64, 64, some ⟨wr.heap.size, 0, none⟩, 0, 0, g⟩, rfl, ⟨⟨cb, rfl, hcb, s5.str _ HST.out⟩, rfl, rfl, ⟨[], RdT.none_, rfl, fun y hy => by cases hy⟩, Nat.le_refl _, (by show (0 : Nat) ≤ _; omega), Nat.le_refl _, fun a ha => ?_⟩, rfl, s5⟩
      cases ha
      refine ⟨by dsimp only; omega, ?_⟩
      have := Tag.box (box_new ((((wr.setCell ⟨w.heap.size, 1, none⟩ (.slice (some ⟨wr.heap.size, 0, none⟩) 0 0)).setCell ⟨w.heap.size + 1, 0, none⟩ (.slice (some ⟨cb, 0, none⟩) 64 64)).setCell ⟨w.heap.size + 1, 1, none⟩ (.slice (some ⟨wr.heap.size, 0, none⟩) 0 0)).setCell ⟨w.heap.size + 1, 2, none⟩ (.bool g)) #[] 75)
      simpa only [World.size_setCell] using this

end Go.Proofs.Ytamljoffmkcbnaa
