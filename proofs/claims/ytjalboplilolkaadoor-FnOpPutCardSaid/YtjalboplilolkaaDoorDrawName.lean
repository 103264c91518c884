/- Names drawn. -/
import Derived.Test.YtjalboplilolkaaDoorPick
import Derived.Deep.RegionWith
namespace Go.Proofs.YtjalboplilolkaaDoor
open Go.RowKit
set_option linter.unusedVariables false
set_option linter.unusedSimpArgs false

/-- A text was drawn: no longer than so many bytes, by so many draws. -/
def StrD (n d : Nat) (w : World) (rb p : Nat) (e : Ending) (w' : World) : Prop := ∃ (s : ByteArray) (q : Nat), e = .returned (.string s) ∧ s.size ≤ n ∧ Rs w' rb (p + q) ∧ q ≤ d ∧ Kp [rb] w w'

theorem lit_str (m : Nat) (l : List ByteArray) (h : ∀ x ∈ l, x.size ≤ m) (k : Nat) (hk : k < l.length) : ∃ s, (l.map (Value.string)).toArray[k]? = some (.string s) ∧ s.size ≤ m := ⟨l[k], by simp [List.getElem?_eq_getElem hk], h _ (List.getElem_mem _)⟩

set_option maxHeartbeats 1600000 in
theorem l92Name_any (w : World) (rb p : Nat) (h : Rs w rb p) (hp : p ≤ 1000000) :
    Calls Tryd.prog 77 #[.pointer (some ⟨rb, 0, none⟩)] w (StrD 5 2 w rb p) := by
  have hr := h
  clear h
  have hl := hr.lt
  go_enter Tryd.func77, Tryd.ntmps77
  go_wp2_with fail
  refine Calls.mono (pick_nat _ _ _ _ hr (by omega) (by omega) (by omega)) ?_
  rintro e w1 ⟨k, rfl, hk0, hr1, hk1⟩
  have hl1 := hr1.lt
  have hne : ¬ w1.heap.size = rb := by omega
  by_cases hz : (k : Int) = 0
  · have hz' : ((k : Int) == 0) = true := by simpa using hz
    go_wp2_with fail
    refine Calls.mono (pick_nat _ _ _ _ (Rs.alloc hr1 _) (by omega) (by omega) (by omega)) ?_
    rintro e w2 ⟨j, rfl, hj0, hr2, hk2⟩
    have hru := hk2.rule
    have hsz := hk2.size
    simp only [World.size_alloc, Nat.add_one_le_iff] at hsz
    obtain ⟨s, hs, hss⟩ := lit_str 5 [⟨#[]⟩, ⟨#[65]⟩, ⟨#[97, 98, 99, 100, 101]⟩, ⟨#[97, 47]⟩, ⟨#[109, 97, 105, 110]⟩] (by decide) j hj0
    simp only [List.map] at hs
    have hj1 : (j : Int) < 5 := by simp at hj0; omega
    clear hj0
    have K := Lib.hid (show Kp [rb] w w2 from (hk1.alloc _).trans hk2)
    go_wp2_with fail
    go_ret
    exact ⟨s, 2, rfl, hss, hr2, Nat.le_refl _, K.out⟩
  · have hz' : ((k : Int) == 0) = false := by simpa using hz
    go_wp2_with fail
    refine Calls.mono (pick_nat _ _ _ _ (Rs.alloc hr1 _) (by omega) (by omega) (by omega)) ?_
    rintro e w2 ⟨j, rfl, hj0, hr2, hk2⟩
    have hru := hk2.rule
    have hsz := hk2.size
    simp only [World.size_alloc, Nat.add_one_le_iff] at hsz
    obtain ⟨s, hs, hss⟩ := lit_str 5 [⟨#[97]⟩, ⟨#[98]⟩, ⟨#[99]⟩, ⟨#[97, 98]⟩, ⟨#[122, 122]⟩] (by decide) j hj0
    simp only [List.map] at hs
    have hj1 : (j : Int) < 5 := by simp at hj0; omega
    clear hj0
    have K := Lib.hid (show Kp [rb] w w2 from (hk1.alloc _).trans hk2)
    go_wp2_with fail
    go_ret
    exact ⟨s, 2, rfl, hss, hr2, Nat.le_refl _, K.out⟩

end Go.Proofs.YtjalboplilolkaaDoor
