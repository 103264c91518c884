/- Where a name stands among entries: the reference's search from the left (l12At) and the program's by halves (entryAt). -/
import Derived.Test.YtmbjioboepbjnaaEntSort
import Derived.Test.YtmbjioboepbjnaaEntOk
import Derived.Deep.LoopGhost
namespace Go.Proofs.Ytmbjioboepbjnaa
open Go.RowKit
set_option linter.unusedVariables false
set_option linter.unusedSimpArgs false

/-- What is still to be searched from place k on. -/
def restAt (l : List Ent) (nm : ByteArray) (k : Nat) : Prop := atOf l nm = atFrom nm (l.drop k) k
theorem restAt_zero (l : List Ent) (nm : ByteArray) : restAt l nm 0 := by simp [restAt, atOf]
theorem restAt_end {l : List Ent} {nm : ByteArray} (h : restAt l nm l.length) : atOf l nm = -1 := by rw [h]; simp [atFrom]
theorem restAt_hit {l : List Ent} {nm : ByteArray} {k : Nat} {e : Ent} (h : restAt l nm k) (he : l[k]? = some e) (hq : (e.name.toList == nm.toList) = true) : atOf l nm = (k : Int) := by
  have hk : k < l.length := by
    rcases Nat.lt_or_ge k l.length with h' | h'
    · exact h'
    · rw [List.getElem?_eq_none h'] at he; cases he
  rw [List.getElem?_eq_getElem hk] at he
  rw [h, List.drop_eq_getElem_cons hk, Option.some.inj he, atFrom, if_pos hq]
theorem restAt_miss {l : List Ent} {nm : ByteArray} {k : Nat} {e : Ent} (h : restAt l nm k) (he : l[k]? = some e) (hq : (e.name.toList == nm.toList) = false) : restAt l nm (k + 1) := by
  have hk : k < l.length := by
    rcases Nat.lt_or_ge k l.length with h' | h'
    · exact h'
    · rw [List.getElem?_eq_none h'] at he; cases he
  rw [List.getElem?_eq_getElem hk] at he
  unfold restAt at h ⊢
  rw [h, List.drop_eq_getElem_cons hk, Option.some.inj he, atFrom, if_neg (by simp [hq])]

set_option maxHeartbeats 1000000 in
theorem l12At_any (w : World) (A : Option Addr) (cap : Nat) (es : List Ent) (nm : ByteArray) (h : RdT encE 2 w A es) (hc : es.length ≤ cap) (hm : cap ≤ 9223372036854775807) :
    Calls Try.prog 22 #[.slice A es.length cap, .string nm] w fun e w' => e = .returned (.int .i64 (atOf es nm)) ∧ w = w' := by
  have HR := Lib.hid h
  clear h
  go_enter Try.func22, Try.ntmps22
  go_wp2_with fail
  go_loop [5] (fun i => ∃ k : Nat, k ≤ es.length ∧ i = .int .i64 k ∧ Hid (restAt es nm k)) (fun i => es.length - (intOf i).toNat)
  case atStart => exact ⟨0, Nat.zero_le _, rfl, restAt_zero es nm⟩
  case round =>
    obtain ⟨k, hk, rfl, hr⟩ := hrel
    by_cases hlt : k < es.length
    · obtain ⟨b, off, em, id, rfl, hb, he, c0, c1⟩ := HR.out.entry hlt
      have HE := Lib.hid he
      clear he
      by_cases hq : (em.toList == nm.toList) = true
      · have HF := Lib.hid (restAt_hit hr.out HE.out hq)
        go_wp2_with fail
        go_ret
        exact ⟨ret_int HF.out.symm, rfl⟩
      · have hq' : (em.toList == nm.toList) = false := by simpa using hq
        have HF := Lib.hid (restAt_miss hr.out HE.out hq')
        clear hq
        go_wp2_with fail
        go_round
        case rel => exact ⟨k + 1, by omega, by go_num, HF.out⟩
        case measure => simp [intOf]; omega
    · obtain rfl : k = es.length := by omega
      have HF := Lib.hid (restAt_end hr.out)
      go_wp2_with fail
      go_ret
      exact ⟨ret_int HF.out.symm, rfl⟩

/-- The comparison that the program hands to the search. -/
theorem entryCmp_any (w : World) (em : ByteArray) (id : Int) (nm : ByteArray) :
    Calls Try.prog 27 #[.agg #[.string em, .int .i64 id], .string nm] w fun e w' => e = .returned (.int .i64 (cmpB em nm)) ∧ Below w.heap.size w w' := by
  have HC := Lib.hid (fun w => Try.strings_Compare em nm w)
  unfold cmpB
  generalize Lib.compareBytes em.data.toList nm.data.toList = J at HC ⊢
  go_enter Try.func27, Try.ntmps27
  go_wp2_with (go_at_call 28; refine (HC.out _).mono ?_; rintro e w' ⟨rfl, rfl⟩)
  go_ret
  exact ⟨rfl, by (repeat (first | assumption | exact Below.refl _ _ | refine below_alloc ?_ _ | refine Below.drew ?_ | refine below_drewN ?_ _ | refine below_set ?_ (by first | exact Nat.le_refl _ | omega | (simp; done) | (simp; omega)) _ | refine below_kp ?_ (by assumption) (by simp) | refine below_below ?_ (by assumption)))⟩

/-- So far: what lies ahead of i is before the name, what lies from j on is not. -/
def Half (l : List Ent) (nm : ByteArray) (i j : Nat) : Prop :=
  Sorted l → (∀ (k : Nat) (d : Ent), k < i → l[k]? = some d → ltB d.name nm = true) ∧ (∀ (k : Nat) (d : Ent), j ≤ k → l[k]? = some d → ltB d.name nm = false)
theorem half_zero (l : List Ent) (nm : ByteArray) : Half l nm 0 l.length := fun _ => ⟨fun k d hk => absurd hk (by omega), fun k d hk hd => by rw [List.getElem?_eq_none hk] at hd; cases hd⟩
theorem half_up {l : List Ent} {nm : ByteArray} {i j h : Nat} {e : Ent} (H : Half l nm i j) (he : l[h]? = some e) (hc : cmpB e.name nm < 0) : Half l nm (h + 1) j := fun hs => by
  obtain ⟨h1, h2⟩ := H hs
  have hl := (cmpB_neg _ _).1 hc
  refine ⟨fun k d hk hd => ?_, h2⟩
  by_cases e1 : k = h
  · subst e1
    rw [he] at hd
    cases hd
    exact hl
  · exact ltB_trans (hs k h d e (by omega) hd he) hl
theorem half_down {l : List Ent} {nm : ByteArray} {i j h : Nat} {e : Ent} (H : Half l nm i j) (he : l[h]? = some e) (hc : ¬ cmpB e.name nm < 0) : Half l nm i h := fun hs => by
  obtain ⟨h1, h2⟩ := H hs
  have hl : ltB e.name nm = false := by
    cases h' : ltB e.name nm
    · rfl
    · exact absurd ((cmpB_neg _ _).2 h') hc
  refine ⟨h1, fun k d hk hd => ?_⟩
  by_cases e1 : k = h
  · subst e1
    rw [he] at hd
    cases hd
    exact hl
  · cases h' : ltB d.name nm
    · rfl
    · have := ltB_trans (hs h k e d (by omega) he hd) h'
      rw [hl] at this
      cases this

def FindPost (l : List Ent) (nm : ByteArray) (w : World) (e : Ending) (w' : World) : Prop := ∃ (i : Nat) (b : Bool), e = .returned (.tuple #[.int .i64 i, .bool b]) ∧ Found l nm i b ∧ Below w.heap.size w w'

set_option maxHeartbeats 2000000 in
theorem bsearch_any (w : World) (A : Option Addr) (cap : Nat) (es : List Ent) (nm : ByteArray) (h : RdT encE 2 w A es) (hc : es.length ≤ cap) (hm : cap ≤ 9223372036854775807) (hn : es.length ≤ 1048576) :
    Calls Try.prog 26 #[.slice A es.length cap, .string nm, .func (.func 27) #[] #[]] w (FindPost es nm w) := by
  have HR := Lib.hid h
  clear h
  go_enter Try.func26, Try.ntmps26
  go_wp2_with fail
  go_loopw [9, 10] (fun u v wr => ∃ i j : Nat, i ≤ j ∧ j ≤ es.length ∧ u = .int .i64 i ∧ v = .int .i64 j ∧ Hid (Half es nm i j) ∧ Hid (Below w.heap.size w wr)) (fun u v _ => (intOf v).toNat - (intOf u).toNat)
  case atStart => exact ⟨0, es.length, Nat.zero_le _, Nat.le_refl _, rfl, rfl, half_zero es nm, Below.refl _ _⟩
  case round =>
    obtain ⟨i, j, hij, hj, rfl, rfl, HH, HB⟩ := hrel
    by_cases hlt : i < j
    · obtain ⟨b, off, em, id, rfl, hb, he, c0, c1⟩ := (HR.out.below HB.out).entry (k := (i + j) / 2) (by omega)
      have HE := Lib.hid he
      clear he
      go_wp2_with fail
      refine Calls.mono (entryCmp_any _ em id nm) ?_
      rintro e w1 ⟨rfl, hB1⟩
      have HB1 := Lib.hid hB1
      clear hB1
      by_cases hcmp : cmpB em nm < 0
      · have HF := Lib.hid (half_up HH.out HE.out hcmp)
        go_wp2_with fail
        go_roundw
        case rel => exact ⟨(i + j) / 2 + 1, j, by omega, hj, by go_num, rfl, HF.out, by have := HB.out; have := HB1.out; show Below _ _ _; (repeat (first | assumption | exact Below.refl _ _ | refine below_alloc ?_ _ | refine Below.drew ?_ | refine below_drewN ?_ _ | refine below_set ?_ (by first | exact Nat.le_refl _ | omega | (simp; done) | (simp; omega)) _ | refine below_kp ?_ (by assumption) (by simp) | refine below_below ?_ (by assumption)))⟩
        case measure => simp [intOf]; omega
      · have HF := Lib.hid (half_down HH.out HE.out hcmp)
        go_wp2_with fail
        go_roundw
        case rel => exact ⟨i, (i + j) / 2, by omega, by omega, rfl, by go_num, HF.out, by have := HB.out; have := HB1.out; show Below _ _ _; (repeat (first | assumption | exact Below.refl _ _ | refine below_alloc ?_ _ | refine Below.drew ?_ | refine below_drewN ?_ _ | refine below_set ?_ (by first | exact Nat.le_refl _ | omega | (simp; done) | (simp; omega)) _ | refine below_kp ?_ (by assumption) (by simp) | refine below_below ?_ (by assumption)))⟩
        case measure => simp [intOf]; omega
    · obtain rfl : i = j := by omega
      by_cases hil : i < es.length
      · obtain ⟨b, off, em, id, rfl, hb, he, c0, c1⟩ := (HR.out.below HB.out).entry hil
        have HE := Lib.hid he
        clear he
        go_wp2_with fail
        refine Calls.mono (entryCmp_any _ em id nm) ?_
        rintro e w1 ⟨rfl, hB1⟩
        have HB1 := Lib.hid hB1
        clear hB1
        by_cases hz : cmpB em nm = 0
        · have HF := Lib.hid (show Found es nm i true from ⟨hj, HH.out, ⟨fun _ => ⟨_, HE.out, (cmpB_zero _ _).1 hz⟩, fun _ => rfl⟩⟩)
          have hz' : (cmpB em nm == 0) = true := by simpa using hz
          clear hz
          go_wp2_with fail
          go_ret2
          exact ⟨i, true, rfl, HF.out, by have := HB.out; have := HB1.out; (repeat (first | assumption | exact Below.refl _ _ | refine below_alloc ?_ _ | refine Below.drew ?_ | refine below_drewN ?_ _ | refine below_set ?_ (by first | exact Nat.le_refl _ | omega | (simp; done) | (simp; omega)) _ | refine below_kp ?_ (by assumption) (by simp) | refine below_below ?_ (by assumption)))⟩
        · have HF := Lib.hid (show Found es nm i false from ⟨hj, HH.out, ⟨fun h => (by cases h), fun ⟨d, hd, hdn⟩ => (by rw [HE.out] at hd; cases hd; exact absurd ((cmpB_zero _ _).2 hdn) hz)⟩⟩)
          have hz' : (cmpB em nm == 0) = false := by simpa using hz
          clear hz
          go_wp2_with fail
          go_ret2
          exact ⟨i, false, rfl, HF.out, by have := HB.out; have := HB1.out; (repeat (first | assumption | exact Below.refl _ _ | refine below_alloc ?_ _ | refine Below.drew ?_ | refine below_drewN ?_ _ | refine below_set ?_ (by first | exact Nat.le_refl _ | omega | (simp; done) | (simp; omega)) _ | refine below_kp ?_ (by assumption) (by simp) | refine below_below ?_ (by assumption)))⟩
      · have HF := Lib.hid (show Found es nm i false from ⟨hj, HH.out, ⟨fun h => (by cases h), fun ⟨d, hd, _⟩ => (by rw [List.getElem?_eq_none (by omega)] at hd; cases hd)⟩⟩)
        go_wp2_with fail
        go_ret2
        exact ⟨i, false, rfl, HF.out, HB.out⟩

theorem entryAt_any (w : World) (A : Option Addr) (cap : Nat) (es : List Ent) (nm : ByteArray) (h : RdT encE 2 w A es) (hc : es.length ≤ cap) (hm : cap ≤ 9223372036854775807) (hn : es.length ≤ 1048576) :
    Calls Try.prog 16 #[.slice A es.length cap, .string nm] w (FindPost es nm w) := by
  have HS := Lib.hid (bsearch_any w A cap es nm h hc hm hn)
  clear h
  go_enter Try.func16, Try.ntmps16
  go_wp2_with fail
  refine Calls.mono HS.out ?_
  rintro e w1 ⟨i, b, rfl, hf, hB⟩
  have HF := Lib.hid hf
  have HB := Lib.hid hB
  clear hf hB
  go_wp2_with fail
  go_ret2
  exact ⟨i, b, rfl, HF.out, HB.out⟩

/-- The number that a name has among entries. -/
def findOf (es : List Ent) (nm : ByteArray) : Int :=
  if entriesOkB es = true then (if 0 ≤ atOf es nm then (match es[(atOf es nm).toNat]? with | some e => e.id | none => -1) else -1) else -1
theorem findOf_bad {es : List Ent} {nm : ByteArray} (h : entriesOkB es = false) : findOf es nm = -1 := by simp [findOf, h]
theorem findOf_miss {es : List Ent} {nm : ByteArray} (h : atOf es nm = -1) : findOf es nm = -1 := by simp [findOf, h]
theorem findOf_hit {es : List Ent} {nm : ByteArray} {i : Nat} {e : Ent} (h : entriesOkB es = true) (ha : atOf es nm = (i : Int)) (he : es[i]? = some e) : findOf es nm = e.id := by
  simp [findOf, h, ha, he]

set_option maxHeartbeats 1000000 in
theorem find_any (w : World) (A : Option Addr) (cap : Nat) (es : List Ent) (nm : ByteArray) (h : RdT encE 2 w A es) (hc : es.length ≤ cap) (hm : cap ≤ 9223372036854775807) (hz : ∀ e ∈ es, e.name.size ≤ 9223372036854775807) :
    Calls Try.prog 9 #[.slice A es.length cap, .string nm] w fun e w' => e = .returned (.int .i64 (findOf es nm)) ∧ Below w.heap.size w w' := by
  have HR := Lib.hid h
  have HO := Lib.hid (entriesOk_any w A cap es h hc hm hz)
  clear h hz
  go_enter Try.func9, Try.ntmps9
  go_wp2_with fail
  refine Calls.mono HO.out ?_
  rintro e w1 ⟨rfl, hB⟩
  have HB := Lib.hid hB
  clear hB
  by_cases hok : entriesOkB es = true
  · have hlen := ok_length hok
    go_wp2_with fail
    refine Calls.mono (entryAt_any w1 A cap es nm (HR.out.below HB.out) hc hm (by omega)) ?_
    rintro e w2 ⟨i, b, rfl, hf, hB2⟩
    have HB2 := Lib.hid hB2
    clear hB2
    rcases found_at hf (ok_sorted hok) with ⟨rfl, ha⟩ | ⟨rfl, ha, d, hd, hdn⟩
    · have HF := Lib.hid (findOf_miss ha)
      clear hf ha
      go_wp2_with fail
      go_ret
      exact ⟨ret_int HF.out.symm, by have := HB.out; have := HB2.out; (repeat (first | assumption | exact Below.refl _ _ | refine below_alloc ?_ _ | refine Below.drew ?_ | refine below_drewN ?_ _ | refine below_set ?_ (by first | exact Nat.le_refl _ | omega | (simp; done) | (simp; omega)) _ | refine below_kp ?_ (by assumption) (by simp) | refine below_below ?_ (by assumption)))⟩
    · have HF := Lib.hid (findOf_hit hok ha hd)
      have hil : i < es.length := by
        rcases Nat.lt_or_ge i es.length with h' | h'
        · exact h'
        · rw [List.getElem?_eq_none h'] at hd; cases hd
      obtain ⟨b, off, em, id, rfl, hb, he', c0, c1⟩ := ((HR.out.below HB.out).below HB2.out).entry hil
      obtain rfl : d = ⟨em, id⟩ := by rw [hd] at he'; exact Option.some.inj he'
      clear hf ha hd hdn he'
      go_wp2_with fail
      go_ret
      exact ⟨ret_int HF.out.symm, by have := HB.out; have := HB2.out; (repeat (first | assumption | exact Below.refl _ _ | refine below_alloc ?_ _ | refine Below.drew ?_ | refine below_drewN ?_ _ | refine below_set ?_ (by first | exact Nat.le_refl _ | omega | (simp; done) | (simp; omega)) _ | refine below_kp ?_ (by assumption) (by simp) | refine below_below ?_ (by assumption)))⟩
  · have hok' : entriesOkB es = false := by simpa using hok
    have HF := Lib.hid (findOf_bad (nm := nm) hok')
    clear hok
    go_wp2_with fail
    go_ret
    exact ⟨ret_int HF.out.symm, HB.out⟩

end Go.Proofs.Ytmbjioboepbjnaa
