/- EntriesAdd, the reference's. -/
import Derived.Test.YtmbjioboepbjnaaEntAdd
namespace Go.Proofs.Ytmbjioboepbjnaa
open Go.RowKit
set_option linter.unusedVariables false
set_option linter.unusedSimpArgs false

/-- Whether an entry may go in, and the list with it. -/
def addB (es : List Ent) (x : Ent) : Bool := entriesOkB es && (decide (atOf es x.name < 0) && entriesOkB (addFrom x es false))
def addL (es : List Ent) (x : Ent) : List Ent := if addB es x = true then addFrom x es false else []
theorem add_bad {es : List Ent} {x : Ent} (h : addB es x = false) : addL es x = [] := by simp [addL, h]
theorem add_hit {es : List Ent} {x : Ent} (h : addB es x = true) : addL es x = addFrom x es false := by simp [addL, h]
theorem addFrom_mem (x : Ent) : ∀ (l : List Ent) (b : Bool) (e : Ent), e ∈ addFrom x l b → e = x ∨ e ∈ l
  | [], true, e, h => by simp [addFrom] at h
  | [], false, e, h => by simp [addFrom] at h; exact .inl h
  | d :: r, true, e, h => by
    simp [addFrom] at h
    rcases h with rfl | h
    · simp
    · rcases addFrom_mem x r true e h with h | h <;> simp [h]
  | d :: r, false, e, h => by
    unfold addFrom at h
    split at h
    · simp at h
      rcases h with rfl | rfl | h
      · simp
      · simp
      · rcases addFrom_mem x r true e h with h | h <;> simp [h]
    · simp at h
      rcases h with rfl | h
      · simp
      · rcases addFrom_mem x r false e h with h | h <;> simp [h]

set_option maxHeartbeats 1000000 in
theorem specAdd_any (w : World) (A : Option Addr) (cap : Nat) (es : List Ent) (x : Ent) (h : RdT encE 2 w A es) (hc : es.length ≤ cap) (hm : cap ≤ 9223372036854775807) (hn : es.length ≤ 1048576) (hz : ∀ e ∈ es, e.name.size ≤ 9223372036854775807) (hx : x.name.size ≤ 9223372036854775807) :
    Calls Try.prog 7 #[.slice A es.length cap, .string x.name, .int .i64 x.id] w (LessPost w (addB es x) (addL es x)) := by
  have HR := Lib.hid h
  have HO := Lib.hid (specEntriesOk_any w A cap es h hc hm hz)
  have HS := Lib.hid (atOf_spec es x.name)
  have HM := Lib.hid (show ∀ e ∈ addFrom x es false, e.name.size ≤ 9223372036854775807 from fun e he => by
    rcases addFrom_mem x es false e he with rfl | h
    · exact hx
    · exact hz e h)
  clear h hz
  go_enter Try.func7, Try.ntmps7
  go_wp2_with fail
  refine Calls.mono HO.out ?_
  rintro e w1 ⟨rfl, hB⟩
  have HB := Lib.hid hB
  clear hB
  by_cases hok : entriesOkB es = true
  · go_wp2_with fail
    refine Calls.mono (l12At_any w1 A cap es x.name (HR.out.below HB.out) hc hm) ?_
    rintro e w0 ⟨rfl, rfl⟩
    rcases HS.out with ⟨ha, _⟩ | ⟨i, e, ha, he, hen⟩
    · rw [ha]
      have HA := Lib.hid ha
      clear ha
      go_wp2_with fail
      refine Calls.mono (l12Add_any _ A cap es x (HR.out.below (by have := HB.out; (repeat (first | assumption | exact Below.refl _ _ | refine below_alloc ?_ _ | refine Below.drew ?_ | refine below_drewN ?_ _ | refine below_set ?_ (by first | exact Nat.le_refl _ | omega | (simp; done) | (simp; omega)) _ | refine below_kp ?_ (by assumption) (by simp) | refine below_below ?_ (by assumption))))) hc hm hn) ?_
      rintro e w2 ⟨v, rfl, hown, hB2⟩
      obtain ⟨A2, c2, rfl, hl2, hc2, hf2, hrd2⟩ := hown.form
      have HO2 := Lib.hid hown
      have HR2 := Lib.hid hrd2
      have HB2 := Lib.hid (below_below (by have := HB.out; (repeat (first | assumption | exact Below.refl _ _ | refine below_alloc ?_ _ | refine Below.drew ?_ | refine below_drewN ?_ _ | refine below_set ?_ (by first | exact Nat.le_refl _ | omega | (simp; done) | (simp; omega)) _ | refine below_kp ?_ (by assumption) (by simp) | refine below_below ?_ (by assumption)))) hB2)
      clear hown hf2 hrd2
      go_wp2_with fail
      refine Calls.mono (specEntriesOk_any w2 A2 c2 _ HR2.out hl2 hc2 HM.out) ?_
      rintro e w3 ⟨rfl, hB3⟩
      have HB3 := Lib.hid (below_below HB2.out hB3)
      have HO3 := Lib.hid (HO2.out.below hB3)
      clear hB3
      by_cases hok2 : entriesOkB (addFrom x es false) = true
      · have E := Lib.hid (show addB es x = true by simp [addB, hok, HA.out, hok2])
        go_wp2_with fail
        go_ret2
        refine (?_ : LessPost w (addB es x) (addL es x) _ _)
        have e1 := E.out
        rw [add_hit e1, e1]
        exact ⟨_, rfl, HO3.out.more ((show Below w.heap.size w _ by have := HB.out; (repeat (first | assumption | exact Below.refl _ _ | refine below_alloc ?_ _ | refine Below.drew ?_ | refine below_drewN ?_ _ | refine below_set ?_ (by first | exact Nat.le_refl _ | omega | (simp; done) | (simp; omega)) _ | refine below_kp ?_ (by assumption) (by simp) | refine below_below ?_ (by assumption)))).size), HB3.out⟩
      · have hok2' : entriesOkB (addFrom x es false) = false := by simpa using hok2
        have E := Lib.hid (show addB es x = false by simp [addB, hok2'])
        clear hok2
        go_wp2_with fail
        go_ret2
        refine (?_ : LessPost w (addB es x) (addL es x) _ _)
        have e1 := E.out
        rw [add_bad e1, e1]
        exact ⟨_, rfl, Own.empty HB3.out.size, by (have := HB3.out; (repeat (first | assumption | exact Below.refl _ _ | refine below_alloc ?_ _ | refine Below.drew ?_ | refine below_drewN ?_ _ | refine below_set ?_ (by first | exact Nat.le_refl _ | omega | (simp; done) | (simp; omega)) _ | refine below_kp ?_ (by assumption) (by simp) | refine below_below ?_ (by assumption))))⟩
    · have E := Lib.hid (show addB es x = false by
        have hni : ¬ (atOf es x.name < 0) := by rw [ha]; omega
        simp [addB, hni])
      rw [ha]
      clear ha he hen
      go_wp2_with fail
      go_ret2
      refine (?_ : LessPost w (addB es x) (addL es x) _ _)
      have e1 := E.out
      rw [add_bad e1, e1]
      exact ⟨_, rfl, Own.empty HB.out.size, by (have := HB.out; (repeat (first | assumption | exact Below.refl _ _ | refine below_alloc ?_ _ | refine Below.drew ?_ | refine below_drewN ?_ _ | refine below_set ?_ (by first | exact Nat.le_refl _ | omega | (simp; done) | (simp; omega)) _ | refine below_kp ?_ (by assumption) (by simp) | refine below_below ?_ (by assumption))))⟩
  · have hok' : entriesOkB es = false := by simpa using hok
    have E := Lib.hid (show addB es x = false by simp [addB, hok'])
    clear hok
    go_wp2_with fail
    go_ret2
    refine (?_ : LessPost w (addB es x) (addL es x) _ _)
    have e1 := E.out
    rw [add_bad e1, e1]
    exact ⟨_, rfl, Own.empty HB.out.size, by (have := HB.out; (repeat (first | assumption | exact Below.refl _ _ | refine below_alloc ?_ _ | refine Below.drew ?_ | refine below_drewN ?_ _ | refine below_set ?_ (by first | exact Nat.le_refl _ | omega | (simp; done) | (simp; omega)) _ | refine below_kp ?_ (by assumption) (by simp) | refine below_below ?_ (by assumption))))⟩

end Go.Proofs.Ytmbjioboepbjnaa
