/- What the laws on entries draw; lists compared. -/
import Derived.Test.YtdjpacfcimifdaaDrawEnts
import Derived.Test.YtdjpacfcimifdaaLawCode
namespace Go.Proofs.Ytdjpacfcimifdaa
open Go.RowKit
set_option linter.unusedVariables false
set_option linter.unusedSimpArgs false

theorem kp_belowE {w w1 w2 : World} {rb : Nat} (h : Below w.heap.size w w1) (hk : Kp [rb] w1 w2) (hr : w.heap.size ≤ rb) : Below w.heap.size w w2 := below_kp h hk (fun k hk => by simp at hk; omega)

set_option maxHeartbeats 1000000 in
theorem pfEntries_true (w : World) (A B : Option Addr) (cap dap : Nat) (es : List Ent) (h : RdT encE 2 w A es) (g : RdT encE 2 w B es) (hc : es.length ≤ cap) (hd : es.length ≤ dap) (hm : cap ≤ 9223372036854775807) :
    Calls Try.prog 26 #[.slice A es.length cap, .slice B es.length dap] w fun e w' => e = .returned (.bool true) ∧ Below w.heap.size w w' := by
  have HR := Lib.hid h
  have HG := Lib.hid g
  clear h g
  go_enter Try.func26, Try.ntmps26
  go_wp2_with fail
  go_loopw [5] (fun i wr => ∃ k : Nat, k ≤ es.length ∧ i = .int .i64 k ∧ Below w.heap.size w wr) (fun i _ => es.length - (intOf i).toNat)
  case atStart => exact ⟨0, Nat.zero_le _, rfl, Below.refl _ _⟩
  case round =>
    obtain ⟨k, hk, rfl, hB⟩ := hrel
    have HB := Lib.hid hB
    clear hB
    by_cases hlt : k < es.length
    · obtain ⟨b, off, nm, id, rfl, hb, he, c0, c1⟩ := (HR.out.below HB.out).entry hlt
      obtain ⟨b', off', nm', id', rfl, hb', he', c0', c1'⟩ := (HG.out.below HB.out).entry hlt
      obtain ⟨rfl, rfl⟩ : nm = nm' ∧ id = id' := by rw [he] at he'; cases he'; exact ⟨rfl, rfl⟩
      clear he he'
      go_wp2_with fail
      refine wp_quiet_b (by kernel_rfl) (by kernel_rfl) (fun hgrow => ?_)
      repeat (go_big_quiet_step (fail))
      refine wpQuiet_nil ?_
      intro w2 hww2
      replace hww2 := below_of_regrown hww2
      clear hgrow
      go_wp2_with fail
      go_roundw
      case rel => exact ⟨k + 1, by omega, by go_num, by have := HB.out; (repeat (first | assumption | exact Below.refl _ _ | refine below_alloc ?_ _ | refine Below.drew ?_ | refine below_drewN ?_ _ | refine below_set ?_ (by first | exact Nat.le_refl _ | omega | (simp; done) | (simp; omega)) _ | refine below_kp ?_ (by assumption) (by simp) | refine below_below ?_ (by assumption)))⟩
      case measure => simp [intOf]; omega
    · obtain rfl : k = es.length := by omega
      go_wp2_with fail
      go_ret
      exact ⟨rfl, HB.out⟩

def EntsS (w : World) (e : Ending) (w' : World) : Prop := ∃ (v : Value) (l : List Ent) (s : ByteArray), e = .returned (.tuple #[v, .string s]) ∧ Own encE 2 39 w.heap.size w' v l ∧ l.length ≤ 13 ∧ (∀ x ∈ l, x.name.size ≤ 100) ∧ s.size ≤ 100 ∧ Below w.heap.size w w'
def EntsI (w : World) (e : Ending) (w' : World) : Prop := ∃ (v : Value) (l : List Ent) (s : ByteArray) (n : Int), e = .returned (.tuple #[v, .string s, .int .i64 n]) ∧ Own encE 2 39 w.heap.size w' v l ∧ l.length ≤ 13 ∧ (∀ x ∈ l, x.name.size ≤ 100) ∧ s.size ≤ 100 ∧ Below w.heap.size w w'

set_option maxHeartbeats 1600000 in
theorem drawEntriesFind_any (w : World) (A : Option Addr) (cap : Nat) (zs : List Int) (h : RdT (encI .u8) 1 w A zs) (hb : ∀ z ∈ zs, 0 ≤ z ∧ z ≤ 255) (hc : zs.length ≤ cap) (hm : cap ≤ 9223372036854775807) :
    Calls Try.prog 30 #[.slice A zs.length cap] w (EntsS w) := by
  have HO := Lib.hid (open_any w A cap zs h hb hc hm)
  clear h hb
  generalize zs.length = n at HO hc ⊢
  go_enter Try.func30, Try.ntmps30
  go_wp2_with fail
  refine Calls.mono HO.out ?_
  rintro e w1 ⟨rfl, hr, hB⟩
  have HB := Lib.hid hB
  have hl := hr.lt
  have hsz := hB.size
  clear hB
  go_wp2_with fail
  refine Calls.mono (l92Entries_any _ _ _ hr (by omega)) ?_
  rintro e w2 ⟨v, l, q, rfl, hln, hq, hT⟩
  have HT := Lib.hid hT
  have HB2 := Lib.hid (kp_belowE HB.out hT.2.2.2 (Nat.le_refl _))
  clear hT
  go_wp2_with fail
  refine Calls.mono (l92Name_any _ w.heap.size (0 + q) HT.out.2.2.1 (by omega)) ?_
  rintro e w3 ⟨s, q3, rfl, hs, hr3, hq3, hk⟩
  have HT3 := Lib.hid (ent_pick hl HT.out hr3 hk)
  have HB3 := Lib.hid (kp_belowE HB2.out hk (Nat.le_refl _))
  clear hk
  go_wp2_with fail
  go_ret2
  exact ⟨v, l, s, rfl, HT3.out.1.more hsz, hln, HT3.out.2.1, by omega, HB3.out⟩

set_option maxHeartbeats 1600000 in
theorem drawEntriesLess_any (w : World) (A : Option Addr) (cap : Nat) (zs : List Int) (h : RdT (encI .u8) 1 w A zs) (hb : ∀ z ∈ zs, 0 ≤ z ∧ z ≤ 255) (hc : zs.length ≤ cap) (hm : cap ≤ 9223372036854775807) :
    Calls Try.prog 25 #[.slice A zs.length cap] w (EntsS w) := by
  have HO := Lib.hid (open_any w A cap zs h hb hc hm)
  clear h hb
  generalize zs.length = n at HO hc ⊢
  go_enter Try.func25, Try.ntmps25
  go_wp2_with fail
  refine Calls.mono HO.out ?_
  rintro e w1 ⟨rfl, hr, hB⟩
  have HB := Lib.hid hB
  have hl := hr.lt
  have hsz := hB.size
  clear hB
  go_wp2_with fail
  refine Calls.mono (l92Entries_any _ _ _ hr (by omega)) ?_
  rintro e w2 ⟨v, l, q, rfl, hln, hq, hT⟩
  have HT := Lib.hid hT
  have HB2 := Lib.hid (kp_belowE HB.out hT.2.2.2 (Nat.le_refl _))
  clear hT
  obtain ⟨A2, c2, rfl, hc1, hc2, _, hrd⟩ := HT.out.1.form
  have HR2 := Lib.hid hrd
  clear hrd
  by_cases hl0 : 0 < l.length
  · go_wp2_with fail
    refine Calls.mono (pick_nat _ w.heap.size (0 + q) _ HT.out.2.2.1 (by omega) (by omega) (by omega)) ?_
    rintro e w3 ⟨j, rfl, hj, hr3, hk⟩
    have HT3 := Lib.hid (ent_pick hl HT.out hr3 hk)
    have HB3 := Lib.hid (kp_belowE HB2.out hk (Nat.le_refl _))
    clear hk hj HT HB2 HR2
    by_cases hj0 : 0 < (j : Int)
    · go_wp2_with fail
      obtain ⟨A3, c3, hA3, _, _, _, hrd3⟩ := HT3.out.1.form
      cases hA3
      obtain ⟨b0, off0, rfl, hb0, hcells⟩ := hrd3 hl0
      have hT3' : EntAt w1 w.heap.size (0 + q + 1) l (.slice (some ⟨b0, off0, none⟩) l.length c2) w3.drew := ⟨HT3.out.1, HT3.out.2.1, HT3.out.2.2.1, ⟨HT3.out.2.2.2.os, HT3.out.2.2.2.tape, HT3.out.2.2.2.output, HT3.out.2.2.2.size, HT3.out.2.2.2.block⟩⟩
      have HT3' := Lib.hid hT3'
      have HB3' := Lib.hid (Below.drew HB3.out)
      clear hT3' hb0 hcells
      go_region_with ((go_at_call 46; refine Calls.mono (pick_nat _ w.heap.size (0 + q + 1) _ HT3'.out.2.2.1 ?h1 ?h2 ?h3) ?_; (case h1 => omega); (case h2 => omega); (case h3 => omega); rintro e w4 ⟨j4, rfl, hj4, hr4, hk4⟩; have HT4 := Lib.hid (ent_pick hl HT3'.out hr4 hk4); have HB4 := Lib.hid (kp_belowE HB3'.out hk4 (Nat.le_refl _)); have hj5 : j4 < l.length := (by omega); obtain ⟨A4, c4, hA4, _, _, _, hrd4⟩ := HT4.out.1.form; cases hA4; obtain ⟨b, off, nm, id, hA5, hb5, he5, c0, c1⟩ := hrd4.entry hj5; cases hA5; have HN := Lib.hid (HT4.out.2.1 _ (List.mem_of_getElem? he5)); clear hk4 hr4 hrd4 he5 hj4))
      go_wp2_with fail
      go_ret2
      exact ⟨_, l, nm, rfl, HT4.out.1.more hsz, hln, HT4.out.2.1, HN.out, HB4.out⟩
    · go_wp2_with fail
      refine Calls.mono (l92Name_any _ w.heap.size (0 + q + 1) hr3 (by omega)) ?_
      rintro e w4 ⟨s, q3, rfl, hs, hr4, hq4, hk⟩
      have HT4 := Lib.hid (ent_pick hl HT3.out hr4 hk)
      have HB4 := Lib.hid (kp_belowE HB3.out hk (Nat.le_refl _))
      clear hk
      go_wp2_with fail
      go_ret2
      exact ⟨_, l, s, rfl, HT4.out.1.more hsz, hln, HT4.out.2.1, by omega, HB4.out⟩
  · obtain rfl : l = [] := List.length_eq_zero_iff.1 (by omega)
    go_wp2_with fail
    refine Calls.mono (l92Name_any _ w.heap.size (0 + q) HT.out.2.2.1 (by omega)) ?_
    rintro e w3 ⟨s, q3, rfl, hs, hr3, hq3, hk⟩
    have HT3 := Lib.hid (ent_pick hl HT.out hr3 hk)
    have HB3 := Lib.hid (kp_belowE HB2.out hk (Nat.le_refl _))
    clear hk
    go_wp2_with fail
    go_ret2
    exact ⟨_, [], s, rfl, HT3.out.1.more hsz, hln, HT3.out.2.1, by omega, HB3.out⟩

end Go.Proofs.Ytdjpacfcimifdaa
