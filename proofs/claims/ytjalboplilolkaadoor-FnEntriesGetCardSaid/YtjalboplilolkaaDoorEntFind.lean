/- Where a name stands among entries: the reference's search from the left (l12At) and the program's by halves (entryAt). -/
import Derived.Test.YtjalboplilolkaaDoorEntSort
import Derived.Test.YtjalboplilolkaaDoorEntOk
import Derived.Deep.LoopGhost
namespace Go.Proofs.YtjalboplilolkaaDoor
open Go.RowKit
set_option linter.unusedVariables false
set_option linter.unusedSimpArgs false

/-- What is still to be searched from place k on. -/
def restAt (l : List Ent) (nm : ByteArray) (k : Nat) : Prop := atOf l nm = atFrom nm (l.drop k) k
theorem restAt_zero (l : List Ent) (nm : ByteArray) : restAt l nm 0 := by simp [restAt, atOf]
theorem restAt_end {l : List Ent} {nm : ByteArray} (h : restAt l nm l.length) : atOf l nm = -1 := by rw [h]; simp [atFrom]
theorem restAt_hit {l : List Ent} {nm : ByteArray} {k : Nat} {e : Ent} (h : restAt l nm k) (he : l[k]? = some e) (hq : (e.name.toList == nm.toList) = true) : atOf l nm = (k : Int) := by
  have hk : k < l.length := by
    rcases Nat.lt_or_ge k l.length with h' | h'
    · exact h'
    · rw [List.getElem?_eq_none h'] at he; cases he
  rw [List.getElem?_eq_getElem hk] at he
  rw [h, List.drop_eq_getElem_cons hk, Option.some.inj he, atFrom, if_pos hq]
theorem restAt_miss {l : List Ent} {nm : ByteArray} {k : Nat} {e : Ent} (h : restAt l nm k) (he : l[k]? = some e) (hq : (e.name.toList == nm.toList) = false) : restAt l nm (k + 1) := by
  have hk : k < l.length := by
    rcases Nat.lt_or_ge k l.length with h' | h'
    · exact h'
    · rw [List.getElem?_eq_none h'] at he; cases he
  rw [List.getElem?_eq_getElem hk] at he
  unfold restAt at h ⊢
  rw [h, List.drop_eq_getElem_cons hk, Option.some.inj he, atFrom, if_neg (by simp [hq])]

set_option maxHeartbeats 1000000 in
theorem l12At_any (w : World) (A : Option Addr) (cap : Nat) (es : List Ent) (nm : ByteArray) (h : RdT encE 2 w A es) (hc : es.length ≤ cap) (hm : cap ≤ 9223372036854775807) :
    Calls Tryd.prog 78 #[.slice A es.length cap, .string nm] w fun e w' => e = .returned (.int .i64 (atOf es nm)) ∧ w = w' := by
  have HR := Lib.hid h
  clear h
  go_enter Tryd.func78, Tryd.ntmps78
  go_wp2_with fail
  go_loop [5] (fun i => ∃ k : Nat, k ≤ es.length ∧ i = .int .i64 k ∧ Hid (restAt es nm k)) (fun i => es.length - (intOf i).toNat)
  case atStart => exact ⟨0, Nat.zero_le _, rfl, restAt_zero es nm⟩
  case round =>
    obtain ⟨k, hk, rfl, hr⟩ := hrel
    by_cases hlt : k < es.length
    · obtain ⟨b, off, em, id, rfl, hb, he, c0, c1⟩ := HR.out.entry hlt
      have HE := Lib.hid he
      clear he
      by_cases hq : (em.toList == nm.toList) = true
      · have HF := Lib.hid (restAt_hit hr.out HE.out hq)
        go_wp2_with fail
        go_ret
        exact ⟨ret_int HF.out.symm, rfl⟩
      · have hq' : (em.toList == nm.toList) = false := by simpa using hq
        have HF := Lib.hid (restAt_miss hr.out HE.out hq')
        clear hq
        go_wp2_with fail
        go_round
        case rel => exact ⟨k + 1, by omega, by go_num, HF.out⟩
        case measure => simp [intOf]; omega
    · obtain rfl : k = es.length := by omega
      have HF := Lib.hid (restAt_end hr.out)
      go_wp2_with fail
      go_ret
      exact ⟨ret_int HF.out.symm, rfl⟩

/-- So far: what lies ahead of i is before the name, what lies from j on is not. -/
def Half (l : List Ent) (nm : ByteArray) (i j : Nat) : Prop :=
  Sorted l → (∀ (k : Nat) (d : Ent), k < i → l[k]? = some d → ltB d.name nm = true) ∧ (∀ (k : Nat) (d : Ent), j ≤ k → l[k]? = some d → ltB d.name nm = false)
theorem half_zero (l : List Ent) (nm : ByteArray) : Half l nm 0 l.length := fun _ => ⟨fun k d hk => absurd hk (by omega), fun k d hk hd => by rw [List.getElem?_eq_none hk] at hd; cases hd⟩
theorem half_up {l : List Ent} {nm : ByteArray} {i j h : Nat} {e : Ent} (H : Half l nm i j) (he : l[h]? = some e) (hc : cmpB e.name nm < 0) : Half l nm (h + 1) j := fun hs => by
  obtain ⟨h1, h2⟩ := H hs
  have hl := (cmpB_neg _ _).1 hc
  refine ⟨fun k d hk hd => ?_, h2⟩
  by_cases e1 : k = h
  · subst e1
    rw [he] at hd
    cases hd
    exact hl
  · exact ltB_trans (hs k h d e (by omega) hd he) hl
theorem half_down {l : List Ent} {nm : ByteArray} {i j h : Nat} {e : Ent} (H : Half l nm i j) (he : l[h]? = some e) (hc : ¬ cmpB e.name nm < 0) : Half l nm i h := fun hs => by
  obtain ⟨h1, h2⟩ := H hs
  have hl : ltB e.name nm = false := by
    cases h' : ltB e.name nm
    · rfl
    · exact absurd ((cmpB_neg _ _).2 h') hc
  refine ⟨h1, fun k d hk hd => ?_⟩
  by_cases e1 : k = h
  · subst e1
    rw [he] at hd
    cases hd
    exact hl
  · cases h' : ltB d.name nm
    · rfl
    · have := ltB_trans (hs h k e d (by omega) he hd) h'
      rw [hl] at this
      cases this

def FindPost (l : List Ent) (nm : ByteArray) (w : World) (e : Ending) (w' : World) : Prop := ∃ (i : Nat) (b : Bool), e = .returned (.tuple #[.int .i64 i, .bool b]) ∧ Found l nm i b ∧ Below w.heap.size w w'

/-- The number that a name has among entries. -/
def findOf (es : List Ent) (nm : ByteArray) : Int :=
  if entriesOkB es = true then (if 0 ≤ atOf es nm then (match es[(atOf es nm).toNat]? with | some e => e.id | none => -1) else -1) else -1
theorem findOf_bad {es : List Ent} {nm : ByteArray} (h : entriesOkB es = false) : findOf es nm = -1 := by simp [findOf, h]
theorem findOf_miss {es : List Ent} {nm : ByteArray} (h : atOf es nm = -1) : findOf es nm = -1 := by simp [findOf, h]
theorem findOf_hit {es : List Ent} {nm : ByteArray} {i : Nat} {e : Ent} (h : entriesOkB es = true) (ha : atOf es nm = (i : Int)) (he : es[i]? = some e) : findOf es nm = e.id := by
  simp [findOf, h, ha, he]

end Go.Proofs.YtjalboplilolkaaDoor
