/- What is read fits, and is read from the disks flushed: the law's walk behind the draw. -/
import Derived.Test.YtamljoffmkcbnaaFlush2
import Derived.Test.YtamljoffmkcbnaaRaidReadS
import Derived.Test.YtamljoffmkcbnaaLawCode
import Derived.Deep.RegionHeld3
namespace Go.Proofs.Ytamljoffmkcbnaa
open Go.RowKit Go.Sort
set_option maxRecDepth 100000
set_option linter.unusedVariables false
set_option linter.unusedSimpArgs false

theorem pt5F {w : World} {b : Nat} {c0 c1 c2 c3 c4 : Value} {T : TypeId} (h : BoxAt w b #[c0, c1, c2, c3, c4] T) :
    w.cell? ⟨b, 0, none⟩ = some c0 ∧ w.cell? ⟨b, 1, none⟩ = some c1 ∧ w.cell? ⟨b, 2, none⟩ = some c2 ∧ w.cell? ⟨b, 3, none⟩ = some c3 ∧ w.cell? ⟨b, 4, none⟩ = some c4 :=
  ⟨h.cell 0, h.cell 1, h.cell 2, h.cell 3, h.cell 4⟩
theorem ra1F {w : World} {b : Nat} {c0 : Value} {T : TypeId} (h : BoxAt w b #[c0] T) : w.cell? ⟨b, 0, none⟩ = some c0 := h.cell 0
/-- Disks and a pointer were drawn. -/
def DrawP (w : World) (e : Ending) (w' : World) : Prop := ∃ (A : Option Addr) (c : Nat) (xs : List DA) (ds : List Dk) (q : Pt), e = .returned (.tuple #[.agg #[.slice A xs.length c], q.v]) ∧ RRd w' A c xs ds ∧ xs.length ≤ 1048576 ∧ Below w.heap.size w w'

set_option maxHeartbeats 8000000 in
theorem flushLaw (w : World) (A0 : Option Addr) (n0 cap0 : Nat) (hc0 : n0 ≤ cap0) (hm0 : cap0 ≤ 9223372036854775807) (hD : Calls Try.prog 17 #[.slice A0 n0 cap0] w (DrawP w)) :
    Calls Try.prog 5 #[.slice A0 n0 cap0] w fun e w' => e = .returned (.bool true) ∧ Below w.heap.size w w' := by
  by_cases hbig : 1048576 < n0
  · clear hD
    go_enter Try.func5, Try.ntmps5
    go_wp2
    go_ret
    exact ⟨rfl, Below.refl _ _⟩
  have HD := Lib.hid hD
  clear hD
  go_enter Try.func5, Try.ntmps5
  go_wp2_with fail
  refine Calls.mono HD.out ?_
  rintro e w1 ⟨A, cap, xs, ds, p, rfl, hr, hn, hB⟩
  have IO := Lib.hid (fun W (hB : Below w1.heap.size w1 W) => raidRead_any W A cap xs ds p (hr.below hB))
  have SO := Lib.hid (fun W (hB : Below w1.heap.size w1 W) => specRaidRead_any W A cap xs ds p (hr.below hB) hn)
  have HR := Lib.hid hr
  have HB0 := Lib.hid hB
  have HFL := Lib.hid (fun (hok : raidB ds = true) W (hB : Below w1.heap.size w1 W) => raidFlush_any W A cap xs ds (HR.out.below hB) hok)
  have HIR := Lib.hid (fun (hok : raidB ds = true) W D c ys (hl : ys.length = 3) (h : RRd W (some ⟨D, 0, none⟩) c ys (ds.map flushK)) => (by
    have := raidRead_any W (some ⟨D, 0, none⟩) c ys (ds.map flushK) p h
    rw [hl, read_flush hok] at this
    exact this))
  have HPF := Lib.hid (fun W (s : ByteArray) hs => ptrFits_any p s W hs)
  have HL3 := Lib.hid (fun (hok : raidB ds = true) => (show xs.length = 3 by rw [← HR.out.len]; exact (raid_ok hok).1))
  clear hr hB hn HD
  generalize hrk : rrK ds p = rk at *
  have HRF := Lib.hid (fun t (h : rk = some t) => read_fits (hrk.trans h))
  clear hrk
  obtain ⟨pa, pb, ps, pu, pl⟩ := p
  unfold Pt.v at *
  dsimp only at *
  generalize hnn : xs.length = n at *
  clear hnn HR
  have HBw := Lib.hid (below_alloc (below_alloc (Below.refl w1.heap.size w1) (.cells #[.slice A n cap] 25)) (.cells #[.int .i64 pa, .int .i64 pb, .int .i64 ps, .int .i64 pu, .int .i64 pl] 29))
  have BB0 := Lib.hid ((box_new w1 #[.slice A n cap] 25).alloc (.cells #[.int .i64 pa, .int .i64 pb, .int .i64 ps, .int .i64 pu, .int .i64 pl] 29))
  have BB1 := box_new (w1.alloc (.cells #[.slice A n cap] 25)) #[.int .i64 pa, .int .i64 pb, .int .i64 ps, .int .i64 pu, .int .i64 pl] 29
  simp only [World.size_alloc] at BB1
  replace BB1 := Lib.hid BB1
  go_wp2_with fail
  refine Calls.mono (IO.out _ HBw.out) ?_
  rintro e w2 ⟨rfl, hB⟩
  have BX2 := Lib.hid (BB0.out.below hB)
  have BP2 := Lib.hid (BB1.out.below hB)
  have HB2 := Lib.hid (below_below HBw.out hB)
  have bx2 := BX2.out.cell
  have bl2 := BX2.out.lt
  have bp2 := BP2.out.cell
  have bpl2 := BP2.out.lt
  clear hB BB0 BB1 HBw IO
  go_wp2_with fail
  refine Calls.mono (SO.out _ HB2.out) ?_
  rintro e w3 ⟨rfl, hB⟩
  have BX3 := Lib.hid (BX2.out.below hB)
  have BP3 := Lib.hid (BP2.out.below hB)
  have HB3 := Lib.hid (below_below HB2.out hB)
  clear hB BX2 BP2 HB2 bx2 bp2 SO
  cases rk with
  | none =>
    unfold optS
    dsimp only [Option.getD, Option.isSome]
    clear HFL HIR HPF HRF HL3
    go_wp2_with fail
    go_ret
    exact ⟨rfl, below_below HB0.out HB3.out⟩
  | some tx =>
    obtain ⟨hok, hfit, hsz⟩ := HRF.out tx rfl
    obtain rfl := HL3.out hok
    have FL := Lib.hid (HFL.out hok)
    have IR := Lib.hid (HIR.out hok)
    have PF := Lib.hid (fun W => (by have := HPF.out W tx (by omega); rw [hfit] at this; exact this))
    clear HFL HIR HPF HRF HL3 hok hfit
    unfold optS at *
    dsimp only [Option.getD, Option.isSome] at *
    have bx3 := BX3.out.cell
    have bl3 := BX3.out.lt
    have bp3 := BP3.out.cell
    have bpl3 := BP3.out.lt
    go_wp2_with fail
    go_region_held3 (fun w' => (w'.cell? ⟨w1.heap.size, 0, none⟩ = some (.slice A 3 cap)) ∧ (w'.cell? ⟨w1.heap.size + 1, 0, none⟩ = some (.int .i64 pa) ∧ w'.cell? ⟨w1.heap.size + 1, 1, none⟩ = some (.int .i64 pb) ∧ w'.cell? ⟨w1.heap.size + 1, 2, none⟩ = some (.int .i64 ps) ∧ w'.cell? ⟨w1.heap.size + 1, 3, none⟩ = some (.int .i64 pu) ∧ w'.cell? ⟨w1.heap.size + 1, 4, none⟩ = some (.int .i64 pl))) (first | exact ⟨ra1F (BX3.out.below (by (repeat (first | assumption | exact Below.refl _ _ | refine below_alloc ?_ _ | refine Below.drew ?_ | refine below_drewN ?_ _ | refine below_below ?_ (by assumption))))), pt5F (BP3.out.below (by (repeat (first | assumption | exact Below.refl _ _ | refine below_alloc ?_ _ | refine Below.drew ?_ | refine below_drewN ?_ _ | refine below_below ?_ (by assumption)))))⟩)
      (first
        | (go_at_call 10; refine Calls.mono (IR.out _ D5 c5 y5 l5.out (X5.out.below (by (repeat (first | assumption | exact Below.refl _ _ | refine below_alloc ?_ _ | refine Below.drew ?_ | refine below_drewN ?_ _ | refine below_below ?_ (by assumption)))))) ?_; rintro e w6 ⟨rfl, hB6⟩)
        | (go_at_call 18; refine Calls.mono (FL.out _ (by refine below_below HB3.out ?_; (repeat (first | assumption | exact Below.refl _ _ | refine below_alloc ?_ _ | refine Below.drew ?_ | refine below_drewN ?_ _ | refine below_below ?_ (by assumption))))) ?_; rintro e w5 ⟨D5, c5, y5, rfl, l5, hr5, hB5⟩; have X5 := Lib.hid hr5; replace l5 := Lib.hid l5; clear hr5))
    have H36 := Lib.hid (show Below w3.heap.size w3 w6 from by (repeat (first | assumption | exact Below.refl _ _ | refine below_alloc ?_ _ | refine Below.drew ?_ | refine below_drewN ?_ _ | refine below_below ?_ (by assumption))))
    have BP6 := Lib.hid (BP3.out.below H36.out)
    have HB6 := Lib.hid (below_below HB3.out H36.out)
    have bp6 := BP6.out.cell
    have bpl6 := BP6.out.lt
    clear hB5 hB6 X5 l5 BX3 BP3 HB3 bx3 bp3 H36 IR FL
    go_wp2_with fail
    refine Calls.mono (PF.out _) ?_
    rintro e w7 ⟨rfl, hB⟩
    have HB7 := Lib.hid (below_below HB6.out hB)
    clear hB
    go_wp2_with fail
    go_ret
    exact ⟨rfl, below_below HB0.out HB7.out⟩

end Go.Proofs.Ytamljoffmkcbnaa
