/- Disks flushed by the program. -/
import Derived.Test.YtamljoffmkcbnaaFlushPlain
import Derived.Test.YtamljoffmkcbnaaRaidNew
import Derived.Test.YtamljoffmkcbnaaShelf
import Derived.Test.YtamljoffmkcbnaaTail
import Derived.Deep.RegionHeld3
import Derived.Deep.CutRange
namespace Go.Proofs.Ytamljoffmkcbnaa
open Go.RowKit Go.Sort
set_option maxRecDepth 100000
set_option linter.unusedVariables false
set_option linter.unusedSimpArgs false

theorem cellsOf_str : ∀ (l : List ByteArray), cellsOf encS 1 l = l.map Value.string
  | [] => rfl
  | x :: r => by
    simp only [cellsOf, List.map_cons, cellsOf_str r]
    simp [encS]
theorem own_ne {α : Type} {enc : α → Nat → Value} {sz base g n cap : Nat} {T T' : TypeId} {w : World} {l : List α} {b : Nat} {cs : Array Value} (h : Own enc sz T base w (.slice (some ⟨g, 0, none⟩) n cap) l) (hb : BoxAt w b cs T') (hT : T ≠ T') : g ≠ b := fun e => by
  subst e
  exact hT ((own_tag h).one (Tag.box hb))
theorem own_one {α : Type} {enc : α → Nat → Value} {sz base g n cap : Nat} {T : TypeId} {w w' : World} {l : List α} {ex : List Nat} (h : Own enc sz T base w (.slice (some ⟨g, 0, none⟩) n cap) l) (hK : Kp ex w w') (he : g ∉ ex) : Own enc sz T base w' (.slice (some ⟨g, 0, none⟩) n cap) l :=
  h.kp hK (fun k hk e => by simp [Value.ownBlock] at e; subst e; exact he hk)

theorem cloneS_any (w : World) (A : Option Addr) (c : Nat) (l : List ByteArray) (h : RdT encS 1 w A l) (hl : l.length = 64) :
    Calls Try.prog 93 #[.slice A 64 c] w fun e w' => ∃ b cap, e = .returned (.slice (some ⟨b, 0, none⟩) 64 cap) ∧ Own encS 1 9 w.heap.size w' (.slice (some ⟨b, 0, none⟩) 64 cap) l ∧ Below w.heap.size w w' := by
  obtain ⟨b, off, rfl, hb, hc⟩ := h (by omega)
  refine (Try.slices_Clone_string b off 64 c l w (by omega) (by omega) (fun j hj => ?_)).mono ?_
  · have := hc j l[j] (List.getElem?_eq_getElem hj) 0 (by omega)
    simp only [Nat.mul_one, Nat.add_zero] at this
    rw [this]
    simp [encS, List.getD_eq_getElem?_getD, List.getElem?_eq_getElem hj]
  · rintro e w' ⟨v, rfl, ho, _, hB⟩
    have ho2 : Own encS 1 9 w.heap.size w' v l := by
      unfold Own
      rw [hl, cellsOf_str]
      rw [List.take_of_length_le (by omega)] at ho
      exact ho
    obtain ⟨g, cap, rfl⟩ := own_block ho2 (by omega)
    rw [hl] at ho2
    exact ⟨g, cap, by rw [hl], ho2, hB⟩

theorem diskFlushC_any (w : World) (i z : Int) (s : ByteArray) (o : Value) : Calls Try.prog 73 #[.int .i64 i, .agg #[.int .i64 z, .string s], o] w fun e w' => e = .returned (.string s) ∧ Below w.heap.size w w' := by
  go_enter Try.func73, Try.ntmps73
  go_wp2_with fail
  go_ret
  exact ⟨rfl, by (repeat (first | assumption | exact Below.refl _ _ | refine below_alloc ?_ _ | refine Below.drew ?_ | refine below_drewN ?_ _ | refine below_set ?_ (by first | exact Nat.le_refl _ | omega | (simp; done) | (simp; omega)) _ | refine below_kp ?_ (by assumption) (by simp) | refine below_below ?_ (by assumption)))⟩

theorem own_cell64 {base b cap : Nat} {w : World} {l : List ByteArray} (h : Own encS 1 9 base w (.slice (some ⟨b, 0, none⟩) 64 cap) l) (hl : l.length = 64) {q : Nat} (hq : q < 64) : (∃ s : ByteArray, w.cell? ⟨b, q, none⟩ = some (.string s)) ∧ w.frozen? ⟨b, q, none⟩ = false := by
  unfold Own at h
  rw [hl] at h
  have he : l[q]? = some l[q] := List.getElem?_eq_getElem (by omega)
  have := cellsOf_get (enc := encS) (sz := 1) l q 0 _ he (by omega)
  rw [show q * 1 + 0 = q by omega] at this
  exact ⟨⟨l[q], (h.cellAt q (by omega)).trans this⟩, World.ownsRow.frozenAt h q⟩
/-- What a cell holds, unseen. -/
def cellV (w : World) (b q : Nat) : Value := (w.cell? ⟨b, q, none⟩).getD undef
theorem own_cellV {base b cap : Nat} {w : World} {l : List ByteArray} (h : Own encS 1 9 base w (.slice (some ⟨b, 0, none⟩) 64 cap) l) (hl : l.length = 64) {q : Nat} (hq : q < 64) : w.cell? ⟨b, q, none⟩ = some (cellV w b q) := by
  obtain ⟨⟨s, hs⟩, _⟩ := own_cell64 h hl hq
  unfold cellV
  rw [hs]
  rfl
theorem own_put64 {base b cap : Nat} {w : World} {l : List ByteArray} (h : Own encS 1 9 base w (.slice (some ⟨b, 0, none⟩) 64 cap) l) (hl : l.length = 64) {q : Nat} (hq : q < 64) (s : ByteArray) : Own encS 1 9 base (w.setCell ⟨b, q, none⟩ (.string s)) (.slice (some ⟨b, 0, none⟩) 64 cap) (l.set q s) := by
  unfold Own at *
  have e := cellsOf_set1 (enc := encS) l q s (by omega)
  rw [List.length_set, ← e]
  rw [hl] at h ⊢
  exact (World.ownsRow.stored h q (.string s)).1

theorem own_from {α : Type} {enc : α → Nat → Value} {sz base g n cap : Nat} {T : TypeId} {w : World} {l : List α} (h : Own enc sz T base w (.slice (some ⟨g, 0, none⟩) n cap) l) : base ≤ g := by
  rcases h.2 with ⟨hv, _⟩ | ⟨g', cap', cur, hv, hg, _⟩
  · cases hv
  · cases hv
    exact hg

/-- A disk flushed. -/
def FD (w : World) (x : DA) (d : Dk) : Prop := DRd w x (flushK d) ∧ (∀ a, x.C = some a → Tag w a.block 9) ∧ x.W = none
theorem FD.ks {w w' : World} {x : DA} {d : Dk} (h : FD w x d) (hs : KS w w') : FD w' x d :=
  ⟨{ h.1 with cells := h.1.cells.keep hs.1 (fun _ a ha _ => hs.2 _ _ (h.2.1 a ha) (.inl rfl)), waits := RdT.none_ }, fun a ha => (h.2.1 a ha).keep (hs.2 _ _ (h.2.1 a ha) (.inl rfl)), h.2.2⟩
def DF (w : World) (d : Dk) (e : Ending) (w' : World) : Prop := ∃ x : DA, e = .returned x.v ∧ FD w' x d ∧ Below w.heap.size w w'

theorem fd_end {w : World} {base b cap : Nat} {d : Dk} (hok : diskB d = true) (ho : Own encS 1 9 base w (.slice (some ⟨b, 0, none⟩) 64 cap) (flushC d.cells d.waits)) : FD w ⟨some ⟨b, 0, none⟩, 64, cap, none, 0, 0, d.gone⟩ d := by
  have h64 : (flushC d.cells d.waits).length = 64 := by rw [flushC_len]; exact (disk_ok hok).1
  obtain ⟨A, c, e, h1, h2, h3, hr⟩ := ho.form
  injection e with e1 e2 e3
  subst e1
  subst e3
  have hf := disk_flush hok
  refine ⟨⟨hr, RdT.none_, h64, rfl, by show 64 ≤ cap; omega, Nat.le_refl _, h2, (by show (0 : Nat) ≤ _; omega), rfl, fun s hs => ?_, fun x hx => by cases hx⟩, fun a ha => by cases ha; exact own_tag ho, rfl⟩
  have := cell_size ((disk_ok hf).2.1 s hs)
  omega

set_option maxHeartbeats 4000000 in
theorem settle_any (w : World) (x : DA) (d : Dk) (h : DRd w x d) (hok : diskB d = true) : Calls Try.prog 72 #[x.v, .func (.func 73) #[] #[]] w (DF w d) := by
  obtain ⟨h64, hcl, hgn, hwt⟩ := disk_ok hok
  obtain ⟨C, nC, cC, W, nW, cW, g⟩ := x
  obtain ⟨hc, hw, hlC, hlW, hC, hW, mC, mW, hg, zC, zW⟩ := h
  obtain ⟨cells, waits, g'⟩ := d
  dsimp only at *
  subst hg
  subst hlW
  obtain rfl : nC = 64 := hlC.symm.trans h64
  have hn120 : waits.length ≤ 120 := by
    unfold diskB at hok
    simp only [Bool.and_eq_true, decide_eq_true_eq] at hok
    exact hok.2.1
  have HOK := Lib.hid hok
  have HEND := Lib.hid (fun W' b cap base (ho : Own encS 1 9 base W' (.slice (some ⟨b, 0, none⟩) 64 cap) (flushC cells waits)) => fd_end (d := ⟨cells, waits, g'⟩) hok ho)
  have HCL := Lib.hid (fun W' (hB : Below w.heap.size w W') => cloneS_any W' C cC cells (hc.below hB) h64)
  have HQ := Lib.hid hw
  have HWT := Lib.hid hwt
  have H64 := Lib.hid h64
  clear hc hw zC zW hcl hgn hwt hok hlC h64
  unfold DA.v
  dsimp only
  have HB0 := Lib.hid (below_alloc (below_alloc (Below.refl w.heap.size w) (.cells #[.slice C 64 cC, .slice W waits.length cW, .bool g'] 51)) (.cells #[.slice none 0 0, .slice none 0 0, .bool false] 51))
  have BX0 := Lib.hid ((box_new w #[.slice C 64 cC, .slice W waits.length cW, .bool g'] 51).alloc (.cells #[.slice none 0 0, .slice none 0 0, .bool false] 51))
  have BR0 := box_new (w.alloc (.cells #[.slice C 64 cC, .slice W waits.length cW, .bool g'] 51)) #[.slice none 0 0, .slice none 0 0, .bool false] 51
  rw [World.size_alloc] at BR0
  replace BR0 := Lib.hid BR0
  go_enter Try.func72, Try.ntmps72
  go_upto_region 1 with fail
  go_cut [5] from 8 to 14 (fun a wx => ∃ B cb cc, a = .pointer (some ⟨B, 0, none⟩) ∧ Hid (BoxAt wx B #[.slice (some ⟨cb, 0, none⟩) 64 cc, .slice none 0 0, .bool g'] 51) ∧ w.heap.size + 1 < B ∧ Hid (Own encS 1 9 w.heap.size wx (.slice (some ⟨cb, 0, none⟩) 64 cc) cells) ∧ Hid (BoxAt wx w.heap.size #[.slice C 64 cC, .slice W waits.length cW, .bool g'] 51) ∧ Hid (BoxAt wx (w.heap.size + 1) #[.slice none 0 0, .slice none 0 0, .bool false] 51) ∧ Hid (Below w.heap.size w wx))
  case first =>
    have bx0 := BX0.out.cell
    have bl0 := BX0.out.lt
    generalize hW0 : ((w.alloc (.cells #[.slice C 64 cC, .slice W waits.length cW, .bool g'] 51)).alloc (.cells #[.slice none 0 0, .slice none 0 0, .bool false] 51)) = W0 at *
    have hs0 : w.heap.size + 1 < W0.heap.size := BR0.out.lt
    clear hW0
    go_region_held3 (fun w' => w'.cell? ⟨w.heap.size, 0, none⟩ = some (.slice C 64 cC) ∧ w'.cell? ⟨w.heap.size, 2, none⟩ = some (.bool g')) (first | exact ⟨(BX0.out.below (by (repeat (first | assumption | exact Below.refl _ _ | refine below_alloc ?_ _ | refine Below.drew ?_ | refine below_drewN ?_ _ | refine below_set ?_ (Nat.le_refl _) _ | refine below_below ?_ (by assumption))))).cell 0, (BX0.out.below (by (repeat (first | assumption | exact Below.refl _ _ | refine below_alloc ?_ _ | refine Below.drew ?_ | refine below_drewN ?_ _ | refine below_set ?_ (Nat.le_refl _) _ | refine below_below ?_ (by assumption))))).cell 2⟩)
      (first
        | (go_at_call 93; refine Calls.mono (HCL.out _ (by refine below_below HB0.out ?_; (repeat (first | assumption | exact Below.refl _ _ | refine below_alloc ?_ _ | refine Below.drew ?_ | refine below_drewN ?_ _ | refine below_below ?_ (by assumption))))) ?_; rintro e w2 ⟨cb, cc, rfl, ho2, hB2⟩; have HO2 := Lib.hid ho2; clear ho2; (try (have hBa : Below (W0.alloc (.cells #[.slice none 0 0, .slice none 0 0, .bool false] 51)).heap.size (W0.alloc (.cells #[.slice none 0 0, .slice none 0 0, .bool false] 51)) w2 := ⟨hB2.os, hB2.tape, hB2.output, hB2.size, hB2.block⟩; have BF := Lib.hid (BoxAt.below (box_new W0 _ _) hBa); have bf1 := BF.out.cell; have bf2 := BF.out.froz; have bf3 := BF.out.lt))))
    · have hWB : Below W0.heap.size W0 w2 := by (repeat (first | assumption | exact Below.refl _ _ | refine below_alloc ?_ _ | refine Below.drew ?_ | refine below_drewN ?_ _ | refine below_below ?_ (by assumption)))
      have hW2 := below_below HB0.out hWB
      go_wp2_with fail
      go_meet
      case rel =>
        exact ⟨w2.heap.size, cb, cc, rfl, Lib.hid (box_new w2 _ _), (by have := (BR0.out.below hWB).lt; omega), Lib.hid ((HO2.out.more (by simpa using HB0.out.size)).below (below_alloc (Below.refl _ _) _)), Lib.hid ((BX0.out.below hWB).alloc _), Lib.hid ((BR0.out.below hWB).alloc _), Lib.hid (below_alloc hW2 _)⟩
    · have hWB : Below W0.heap.size W0 w2 := by (repeat (first | assumption | exact Below.refl _ _ | refine below_alloc ?_ _ | refine Below.drew ?_ | refine below_drewN ?_ _ | refine below_below ?_ (by assumption)))
      have hW2 := below_below HB0.out hWB
      go_wp2_with fail
      go_meet
      case rel =>
        exact ⟨W0.heap.size, cb, cc, rfl, Lib.hid (box_putB (box_putB (box_putB BF.out 0 _) 1 _) 2 _), hs0, Lib.hid (own_one (HO2.out.more (by have := HB0.out.size; simp; omega)) (kp_set3 _ _ _ _ _) (by simpa using own_ne HO2.out BF.out (by decide))), Lib.hid ((((BX0.out.below hWB).set (by dsimp only; omega) _).set (by dsimp only; omega) _).set (by dsimp only; omega) _), Lib.hid ((((BR0.out.below hWB).set (by dsimp only; omega) _).set (by dsimp only; omega) _).set (by dsimp only; omega) _), Lib.hid (below_set (below_set (below_set hW2 (by dsimp only; omega) _) (by dsimp only; omega) _) (by dsimp only; omega) _)⟩
  case rest =>
    clear BX0 BR0 HB0 HCL
    obtain ⟨B, cb, cc, rfl, HX0, hB1, HO0, HI, HRB0, HB0⟩ := hcut
    have bx := HI.out.cell
    have bl := HI.out.lt
    have HFL := Lib.hid (fun k => (show (flushC cells (waits.take k)).length = 64 by rw [flushC_len]; exact H64.out))
    have HO1 := Lib.hid (show Own encS 1 9 w.heap.size _ (.slice (some ⟨cb, 0, none⟩) 64 cc) (flushC cells (waits.take 0)) from HO0.out)
    clear HO0
    go_wp2_with fail
    go_loopw [17] (fun i wr => ∃ k : Nat, k ≤ waits.length ∧ i = .int .i64 k ∧ Hid (BoxAt wr B #[.slice (some ⟨cb, 0, none⟩) 64 cc, .slice none 0 0, .bool g'] 51) ∧ Hid (Own encS 1 9 w.heap.size wr (.slice (some ⟨cb, 0, none⟩) 64 cc) (flushC cells (waits.take k))) ∧ Hid (BoxAt wr (w.heap.size + 1) #[.slice none 0 0, .slice none 0 0, .bool false] 51) ∧ Hid (Below w.heap.size w wr)) (fun i _ => waits.length - (intOf i).toNat)
    case atStart => exact ⟨0, Nat.zero_le _, rfl, HX0, HO1, HRB0, HB0⟩
    case round =>
      clear bx bl HI HX0 HO1 HRB0 HB0
      obtain ⟨k, hk, rfl, HX, HO, HRB, HB⟩ := hrel
      have ne1 : B ≠ cb := fun e => own_ne HO.out HX.out (by decide) e.symm
      have ne2 : w.heap.size + 1 ≠ cb := fun e => own_ne HO.out HRB.out (by decide) e.symm
      have hxl := HX.out.lt
      have hcl : cb < wr.heap.size := (own_tag HO.out).lt
      by_cases hlt : k < waits.length
      · obtain ⟨b, off, z, s, rfl, hb, he, c0, c1⟩ := (HQ.out.below HB.out).wait hlt
        have hz : inB z 0 63 = true := by
          have := HWT.out _ (List.mem_of_getElem? he)
          unfold waitB at this
          simp only [Bool.and_eq_true] at this
          exact this.1
        obtain ⟨z0, z1⟩ := inB_true hz
        obtain ⟨q, rfl⟩ : ∃ q : Nat, z = (q : Int) := ⟨z.toNat, by omega⟩
        have hq : q < 64 := by omega
        have HE := Lib.hid (show flushC cells (waits.take (k + 1)) = (flushC cells (waits.take k)).set q s by rw [flushC_take he]; simp)
        have k2 : IntKind.i64.wrap ((k : Int) + 1) = (k : Int) + 1 := IntWalk.i64_in _ (by omega)
        clear hz he z0 z1
        go_wp2_with fail
        have BA := Lib.hid (box_new wr #[.int .i64 (q : Int), .string s] 75)
        have BXA := Lib.hid (HX.out.alloc (.cells #[.int .i64 (q : Int), .string s] 75))
        have OA := Lib.hid (HO.out.below (below_alloc (Below.refl _ _) (.cells #[.int .i64 (q : Int), .string s] 75)))
        have RA := Lib.hid (HRB.out.alloc (.cells #[.int .i64 (q : Int), .string s] 75))
        have HBA := Lib.hid (below_alloc HB.out (.cells #[.int .i64 (q : Int), .string s] 75))
        have ne3 : wr.heap.size ≠ cb := by omega
        generalize hWA : wr.alloc (.cells #[.int .i64 (q : Int), .string s] 75) = WA at *
        have ba := BA.out.cell
        have bal := BA.out.lt
        have bxa := BXA.out.cell
        have bxal := BXA.out.lt
        obtain ⟨⟨s0, hs0⟩, _⟩ := own_cell64 OA.out (HFL.out k) hq
        have hq3 : (q : Int) < 64 := by omega
        have hcla : cb < WA.heap.size := (own_tag OA.out).lt
        have HWA := Lib.hid hWA
        clear hWA HX HO HRB
        refine wp_quiet_tail_b 15 (by kernel_rfl) rfl rfl rfl (by kernel_rfl) (by kernel_rfl) (by kernel_rfl) (by kernel_rfl) (fun hgrow => ?_)
        simp only [List.take_succ_cons, List.take_zero, List.set_cons_succ, List.set_cons_zero, nopOf]
        repeat (go_big_quiet_step ((go_at_call 73; exact quiet_b (diskFlushC_any _ _ _ _ _))))
        refine wpQuiet_nil ?_
        intro w2 hw2
        replace hw2 := below_of_regrown hw2
        clear hgrow
        have O2 := Lib.hid (OA.out.below hw2)
        obtain ⟨⟨s2, hs2⟩, hf2⟩ := own_cell64 O2.out (HFL.out k) hq
        go_wp2_with fail
        have O3 := Lib.hid (own_put64 O2.out (HFL.out k) hq s)
        rw [← HE.out] at O3
        have B3 := Lib.hid (below_set (below_below HBA.out hw2) (p := ⟨cb, q, none⟩) (by
          have := own_from O2.out
          exact this) (.string s))
        have X3 := Lib.hid ((BXA.out.below hw2).set (p := ⟨cb, q, none⟩) ne1 (.string s))
        have R3 := Lib.hid ((RA.out.below hw2).set (p := ⟨cb, q, none⟩) ne2 (.string s))
        go_roundw
        case rel => exact ⟨k + 1, by omega, by go_num, X3, O3, R3, B3⟩
        case measure => simp [intOf]; omega
      · obtain rfl : k = waits.length := by omega
        have O9 := Lib.hid (show Own encS 1 9 w.heap.size wr (.slice (some ⟨cb, 0, none⟩) 64 cc) (flushC cells waits) by have := HO.out; rwa [List.take_length] at this)
        have hx := HX.out.cell
        have hr := HRB.out.cell
        have hrf := HRB.out.froz
        have hrl := HRB.out.lt
        have HP := Lib.hid (show DF w ⟨cells, waits, g'⟩ (.returned (.agg #[.slice (some ⟨cb, 0, none⟩) 64 cc, .slice none 0 0, .bool g'])) (((wr.setCell ⟨w.heap.size + 1, 0, none⟩ (.slice (some ⟨cb, 0, none⟩) 64 cc)).setCell ⟨w.heap.size + 1, 1, none⟩ (.slice none 0 0)).setCell ⟨w.heap.size + 1, 2, none⟩ (.bool g')) from
          ⟨_, rfl, HEND.out _ _ _ w.heap.size (own_one O9.out (kp_set3 (w.heap.size + 1) wr _ _ _) (by simp; omega)), below_kp HB.out (kp_set3 (w.heap.size + 1) wr _ _ _) (by simp)⟩)
        clear HO O9 HEND HQ HWT H64 HFL HOK
        generalize waits.length = n at *
        go_wp2_with fail
        refine bodyPost_ret (v := .agg #[.slice (some ⟨cb, 0, none⟩) 64 cc, .slice none 0 0, .bool g']) (by simp [results, Try.results72, go_sem, hr, hrl]) rfl ?_
        exact HP.out

end Go.Proofs.Ytamljoffmkcbnaa
