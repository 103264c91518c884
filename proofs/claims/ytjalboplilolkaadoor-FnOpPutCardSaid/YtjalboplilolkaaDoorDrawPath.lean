/- What the laws on paths draw: some text; some list of texts. -/
import Derived.Test.YtjalboplilolkaaDoorDrawName
import Derived.Test.YtjalboplilolkaaDoorPathSpec
namespace Go.Proofs.YtjalboplilolkaaDoor
open Go.RowKit
set_option linter.unusedVariables false
set_option linter.unusedSimpArgs false

set_option maxHeartbeats 1600000 in
theorem l92Path_any (w : World) (rb p : Nat) (h : Rs w rb p) (hp : p ≤ 1000000) :
    Calls Tryd.prog 101 #[.pointer (some ⟨rb, 0, none⟩)] w (StrD 10 2 w rb p) := by
  have hr := h
  clear h
  have hl := hr.lt
  go_enter Tryd.func101, Tryd.ntmps101
  go_wp2_with fail
  refine Calls.mono (pick_nat _ _ _ _ hr (by omega) (by omega) (by omega)) ?_
  rintro e w1 ⟨k, rfl, hk0, hr1, hk1⟩
  have hl1 := hr1.lt
  have hne : ¬ w1.heap.size = rb := by omega
  by_cases hz : (k : Int) = 0
  · have hz' : ((k : Int) == 0) = true := by simpa using hz
    go_wp2_with fail
    refine Calls.mono (pick_nat _ _ _ _ (Rs.alloc hr1 _) (by omega) (by omega) (by omega)) ?_
    rintro e w2 ⟨j, rfl, hj0, hr2, hk2⟩
    have hru := hk2.rule
    have hsz := hk2.size
    simp only [World.size_alloc, Nat.add_one_le_iff] at hsz
    obtain ⟨s, hs, hss⟩ := lit_str 10 [⟨#[]⟩, ⟨#[97]⟩, ⟨#[47, 47]⟩, ⟨#[47, 97, 47]⟩, ⟨#[47, 65]⟩, ⟨#[47, 97, 47, 98, 47, 99, 47, 97, 47, 98]⟩, ⟨#[47, 97, 98, 99, 100, 101]⟩, ⟨#[47, 97, 47, 47, 98]⟩] (by decide) j hj0
    simp only [List.map] at hs
    have hj1 : (j : Int) < 8 := by simp at hj0; omega
    clear hj0
    have K := Lib.hid (show Kp [rb] w w2 from (hk1.alloc _).trans hk2)
    go_wp2_with fail
    go_ret
    exact ⟨s, 2, rfl, hss, hr2, Nat.le_refl _, K.out⟩
  · have hz' : ((k : Int) == 0) = false := by simpa using hz
    go_wp2_with fail
    refine Calls.mono (pick_nat _ _ _ _ (Rs.alloc hr1 _) (by omega) (by omega) (by omega)) ?_
    rintro e w2 ⟨j, rfl, hj0, hr2, hk2⟩
    have hru := hk2.rule
    have hsz := hk2.size
    simp only [World.size_alloc, Nat.add_one_le_iff] at hsz
    obtain ⟨s, hs, hss⟩ := lit_str 10 [⟨#[47, 97]⟩, ⟨#[47, 98]⟩, ⟨#[47, 97, 47, 98]⟩, ⟨#[47, 97, 47, 99]⟩, ⟨#[47, 98, 47, 97]⟩, ⟨#[47, 99]⟩, ⟨#[47, 97, 47, 98, 47, 99]⟩, ⟨#[47, 99, 47, 97]⟩, ⟨#[47, 97, 98]⟩, ⟨#[47]⟩] (by decide) j hj0
    simp only [List.map] at hs
    have hj1 : (j : Int) < 10 := by simp at hj0; omega
    clear hj0
    have K := Lib.hid (show Kp [rb] w w2 from (hk1.alloc _).trans hk2)
    go_wp2_with fail
    go_ret
    exact ⟨s, 2, rfl, hss, hr2, Nat.le_refl _, K.out⟩

/-- Some text; two texts; a list of texts. -/
def Str1 (w : World) (e : Ending) (w' : World) : Prop := ∃ s : ByteArray, e = .returned (.string s) ∧ s.size ≤ 64 ∧ Below w.heap.size w w'
def Str2 (w : World) (e : Ending) (w' : World) : Prop := ∃ s t : ByteArray, e = .returned (.tuple #[.string s, .string t]) ∧ s.size ≤ 64 ∧ t.size ≤ 64 ∧ Below w.heap.size w w'
def Strs1 (w : World) (e : Ending) (w' : World) : Prop := ∃ (v : Value) (xs : List ByteArray), e = .returned v ∧ Own encS 1 9 w.heap.size w' v xs ∧ xs.length ≤ 64 ∧ (∀ x ∈ xs, x.size ≤ 64) ∧ Below w.heap.size w w'

theorem kp_below {w w1 w2 : World} {rb : Nat} (h : Below w.heap.size w w1) (hk : Kp [rb] w1 w2) (hr : w.heap.size ≤ rb) : Below w.heap.size w w2 := below_kp h hk (fun k hk => by simp at hk; omega)

theorem own_baseS {base : Nat} {w : World} {v : Value} {xs : List ByteArray} (h : Own encS 1 9 base w v xs) : ∀ k, v.ownBlock = some k → base ≤ k := by
  rcases h.2 with ⟨rfl, _⟩ | ⟨g, cap, cur, rfl, hg, _⟩
  · intro k hk; simp [Value.ownBlock] at hk
  · intro k hk; simp [Value.ownBlock] at hk; omega

end Go.Proofs.YtjalboplilolkaaDoor
