/- EntriesLess: both texts. -/
import Derived.Test.YtmbjioboepbjnaaEntClone
namespace Go.Proofs.Ytmbjioboepbjnaa
open Go.RowKit
set_option linter.unusedVariables false
set_option linter.unusedSimpArgs false

def lessB (es : List Ent) (nm : ByteArray) : Bool := entriesOkB es && decide (0 ≤ atOf es nm)
def lessL (es : List Ent) (nm : ByteArray) : List Ent := if lessB es nm = true then es.take (atOf es nm).toNat ++ es.drop ((atOf es nm).toNat + 1) else []
theorem less_bad {es : List Ent} {nm : ByteArray} (h : entriesOkB es = false) : lessB es nm = false ∧ lessL es nm = [] := by
  have : lessB es nm = false := by simp [lessB, h]
  exact ⟨this, by simp [lessL, this]⟩
theorem less_miss {es : List Ent} {nm : ByteArray} (h : atOf es nm = -1) : lessB es nm = false ∧ lessL es nm = [] := by
  have : lessB es nm = false := by simp [lessB, h]
  exact ⟨this, by simp [lessL, this]⟩
theorem less_hit {es : List Ent} {nm : ByteArray} {i : Nat} (h : entriesOkB es = true) (ha : atOf es nm = (i : Int)) : lessB es nm = true ∧ lessL es nm = es.take i ++ es.drop (i + 1) := by
  have : lessB es nm = true := by simp [lessB, h, ha]
  exact ⟨this, by simp [lessL, this, ha]⟩

theorem Own.head {α : Type} {enc : α → Nat → Value} {sz T base : Nat} {w : World} {v : Value} {xs : List α} (h : Own enc sz T base w v xs) (hn : 0 < xs.length) : ∃ g cap, v = .slice (some ⟨g, 0, none⟩) xs.length cap := by
  rcases h.2 with ⟨_, h0⟩ | ⟨g, cap, cur, hv, _⟩
  · omega
  · exact ⟨g, cap, hv⟩

def LessPost (w : World) (b : Bool) (l : List Ent) (e : Ending) (w' : World) : Prop := ∃ v, e = .returned (.tuple #[v, .bool b]) ∧ Own encE 2 32 w.heap.size w' v l ∧ Below w.heap.size w w'

set_option maxHeartbeats 1000000 in
theorem less_any (w : World) (A : Option Addr) (cap : Nat) (es : List Ent) (nm : ByteArray) (h : RdT encE 2 w A es) (hc : es.length ≤ cap) (hm : cap ≤ 9223372036854775807) (hn : es.length ≤ 1048576) (hz : ∀ e ∈ es, e.name.size ≤ 9223372036854775807) :
    Calls Try.prog 10 #[.slice A es.length cap, .string nm] w (LessPost w (lessB es nm) (lessL es nm)) := by
  have HR := Lib.hid h
  have HZ := Lib.hid hz
  clear h hz
  go_enter Try.func10, Try.ntmps10
  go_wp2_with fail
  refine Calls.mono (entryAt_any w A cap es nm HR.out hc hm hn) ?_
  rintro e w1 ⟨i, b, rfl, hf, hB⟩
  have HB := Lib.hid hB
  clear hB
  go_wp2_with fail
  refine Calls.mono (entriesOk_any w1 A cap es (HR.out.below HB.out) hc hm HZ.out) ?_
  rintro e w2 ⟨rfl, hB⟩
  have HB2 := Lib.hid (below_below HB.out hB)
  clear hB HB
  by_cases hok : entriesOkB es = true
  · rcases found_at hf (ok_sorted hok) with ⟨rfl, ha⟩ | ⟨rfl, ha, d, hd, hdn⟩
    · obtain ⟨e1, e2⟩ := less_miss ha
      have E := Lib.hid (And.intro e1 e2)
      clear hf ha e1 e2
      go_wp2_with fail
      go_ret2
      refine (?_ : LessPost w (lessB es nm) (lessL es nm) _ _)
      rw [E.out.1, E.out.2]
      exact ⟨_, rfl, Own.nil, HB2.out⟩
    · obtain ⟨e1, e2⟩ := less_hit hok ha
      have hil : i < es.length := by
        rcases Nat.lt_or_ge i es.length with h' | h'
        · exact h'
        · rw [List.getElem?_eq_none h'] at hd; cases hd
      have E := Lib.hid (And.intro e1 e2)
      have HR2 := Lib.hid (HR.out.below HB2.out)
      obtain ⟨b, off, rfl, _⟩ := HR.out (by omega)
      clear hf ha hd hdn e1 e2
      go_wp2_with fail
      refine Calls.mono (clone_any w2 b off cap es HR2.out hn) ?_
      rintro e w3 ⟨v, rfl, hown, hB3⟩
      obtain ⟨g, c3, rfl⟩ := hown.head (by omega)
      have HO := Lib.hid hown
      have HB3 := Lib.hid hB3
      clear hown hB3
      have k2 : IntKind.i64.wrap ((i : Int) + 1) = (i : Int) + 1 := IntWalk.i64_in _ (by omega)
      go_wp2_with fail
      refine Calls.mono (delete_any w2.heap.size w3 g c3 es i HO.out hn hil HB3.out.size) ?_
      rintro e w4 ⟨rfl, hown, hB4⟩
      go_wp2_with fail
      go_ret2
      refine (?_ : LessPost w (lessB es nm) (lessL es nm) _ _)
      rw [E.out.1, E.out.2]
      exact ⟨_, rfl, hown.more HB2.out.size, (below_below HB2.out HB3.out).trans (hB4.mono HB2.out.size)⟩
  · have hok' : entriesOkB es = false := by simpa using hok
    obtain ⟨e1, e2⟩ := less_bad (nm := nm) hok'
    have E := Lib.hid (And.intro e1 e2)
    clear hok e1 e2
    go_wp2_with fail
    go_ret2
    refine (?_ : LessPost w (lessB es nm) (lessL es nm) _ _)
    rw [E.out.1, E.out.2]
    exact ⟨_, rfl, Own.nil, HB2.out⟩

end Go.Proofs.Ytmbjioboepbjnaa
