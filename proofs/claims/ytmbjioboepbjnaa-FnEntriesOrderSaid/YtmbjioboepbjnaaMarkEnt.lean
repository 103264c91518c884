/- Marking a list of entries, and whether the marks are still there. -/
import Derived.Test.YtmbjioboepbjnaaEntHelp
import Derived.Test.YtmbjioboepbjnaaMark
import Derived.Test.YtmbjioboepbjnaaQuiet
namespace Go.Proofs.Ytmbjioboepbjnaa
open Go.RowKit
set_option linter.unusedVariables false
set_option linter.unusedSimpArgs false

/-- The marks from k on. -/
def markE (k n : Nat) : List Ent := (List.range n).map fun i => ⟨markS (k + 2 * i), ((k + 2 * i + 1 : Nat) : Int)⟩
theorem markE_length (k n : Nat) : (markE k n).length = n := by simp [markE]
theorem markE_get (k n i : Nat) (h : i < n) : (markE k n)[i]? = some ⟨markS (k + 2 * i), ((k + 2 * i + 1 : Nat) : Int)⟩ := by simp [markE, h]

/-- The block of a row of the call's own, as a list. -/
def exOf (v : Value) : List Nat := match v.ownBlock with | some b => [b] | none => []

def MarkPost (base k n : Nat) (w : World) (v : Value) (e : Ending) (w' : World) : Prop := e = .returned (.int .i64 ((k + 2 * n : Nat) : Int)) ∧ Own encE 2 32 base w' v (markE k n) ∧ Kp (exOf v) w w'

theorem markE_mix (k n i : Nat) (es : List Ent) (hn : es.length = n) (hi : i < n) : ((markE k n).take i ++ es.drop i).set i ⟨markS (k + 2 * i), ((k + 2 * i + 1 : Nat) : Int)⟩ = (markE k n).take (i + 1) ++ es.drop (i + 1) := by
  apply List.ext_getElem?
  intro j
  have h1 : ((markE k n).take i).length = i := by rw [List.length_take, markE_length]; omega
  have h2 : ((markE k n).take (i + 1)).length = i + 1 := by rw [List.length_take, markE_length]; omega
  by_cases hj : j < i
  · rw [List.getElem?_set_ne (by omega), List.getElem?_append_left (by omega), List.getElem?_append_left (by omega), List.getElem?_take, List.getElem?_take, if_pos hj, if_pos (by omega)]
  · by_cases hj2 : j = i
    · subst hj2
      rw [List.getElem?_set_self (by simp [markE_length]; omega), List.getElem?_append_left (by omega), List.getElem?_take, if_pos (by omega), markE_get _ _ _ hi]
    · rw [List.getElem?_set_ne (by omega), List.getElem?_append_right (by omega), List.getElem?_append_right (by omega), h1, h2, List.getElem?_drop, List.getElem?_drop]
      congr 1
      omega

end Go.Proofs.Ytmbjioboepbjnaa
