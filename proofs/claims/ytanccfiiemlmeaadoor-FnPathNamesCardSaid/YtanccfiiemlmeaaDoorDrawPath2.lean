/- What the laws on names and on paths draw, where a text of any bytes is among it. -/
import Derived.Test.YtanccfiiemlmeaaDoorDrawPath
import Derived.Test.YtanccfiiemlmeaaDoorDrawText
namespace Go.Proofs.YtanccfiiemlmeaaDoor
open Go.RowKit
set_option linter.unusedVariables false
set_option linter.unusedSimpArgs false

set_option maxHeartbeats 1600000 in
theorem drawNameOk_any (w : World) (A : Option Addr) (cap : Nat) (zs : List Int) (h : RdT (encI .u8) 1 w A zs) (hb : ∀ z ∈ zs, 0 ≤ z ∧ z ≤ 255) (hc : zs.length ≤ cap) (hm : cap ≤ 9223372036854775807) :
    Calls Tryd.prog 22 #[.slice A zs.length cap] w (Str1 w) := by
  have HO := Lib.hid (open_any w A cap zs h hb hc hm)
  clear h hb
  generalize zs.length = n at HO hc ⊢
  go_enter Tryd.func22, Tryd.ntmps22
  go_wp2_with fail
  refine Calls.mono HO.out ?_
  rintro e w1 ⟨rfl, hr, hB⟩
  have HB := Lib.hid hB
  clear hB
  go_wp2_with fail
  refine Calls.mono (l92Name_any _ _ _ hr (by omega)) ?_
  rintro e w2 ⟨s, q, rfl, hs, hr2, hq, hk⟩
  have HB2 := Lib.hid (kp_below HB.out hk (Nat.le_refl _))
  clear hk
  go_wp2_with fail
  refine Calls.mono (l91Text_any _ _ _ 5 hr2 (by omega) (by omega)) ?_
  rintro e w3 ⟨t, q2, rfl, ht, hr3, hq2, hk⟩
  have HB3 := Lib.hid (kp_below HB2.out hk (Nat.le_refl _))
  clear hk
  go_wp2_with fail
  refine Calls.mono (pick_nat _ w.heap.size (0 + q + q2) _ (Rs.alloc hr3 _) (by omega) (by omega) (by omega)) ?_
  rintro e w4 ⟨j, rfl, hj, hr4, hk4⟩
  have HB4 := Lib.hid (kp_below (below_alloc HB3.out _) hk4 (Nat.le_refl _))
  have hru := hk4.rule
  have hsz := hk4.size
  have hrl : w.heap.size < w3.heap.size := hr3.lt
  have hne : ¬ w3.heap.size = w.heap.size := by omega
  simp only [World.size_alloc, Nat.add_one_le_iff] at hsz
  obtain ⟨u, hu, hus⟩ := lit_str 64 [s, t, ⟨#[122, 122, 122, 122]⟩, ⟨#[97, 98, 99, 100, 101]⟩] (by
    intro x hx
    simp at hx
    rcases hx with rfl | rfl | rfl | rfl
    · omega
    · omega
    · decide
    · decide) j hj
  simp only [List.map] at hu
  have hj1 : (j : Int) < 4 := by simp at hj; omega
  clear hj hk4 hr4
  go_wp2_with fail
  go_ret
  exact ⟨u, rfl, hus, HB4.out⟩

set_option maxHeartbeats 1600000 in
theorem drawPathOk_any (w : World) (A : Option Addr) (cap : Nat) (zs : List Int) (h : RdT (encI .u8) 1 w A zs) (hb : ∀ z ∈ zs, 0 ≤ z ∧ z ≤ 255) (hc : zs.length ≤ cap) (hm : cap ≤ 9223372036854775807) :
    Calls Tryd.prog 44 #[.slice A zs.length cap] w (Str1 w) := by
  have HO := Lib.hid (open_any w A cap zs h hb hc hm)
  clear h hb
  generalize zs.length = n at HO hc ⊢
  go_enter Tryd.func44, Tryd.ntmps44
  go_wp2_with fail
  refine Calls.mono HO.out ?_
  rintro e w1 ⟨rfl, hr, hB⟩
  have HB := Lib.hid hB
  clear hB
  go_wp2_with fail
  refine Calls.mono (l92Path_any _ _ _ hr (by omega)) ?_
  rintro e w2 ⟨s, q, rfl, hs, hr2, hq, hk⟩
  have HB2 := Lib.hid (kp_below HB.out hk (Nat.le_refl _))
  clear hk
  go_wp2_with fail
  refine Calls.mono (l91Text_any _ _ _ 6 hr2 (by omega) (by omega)) ?_
  rintro e w3 ⟨t, q2, rfl, ht, hr3, hq2, hk⟩
  have HB3 := Lib.hid (kp_below HB2.out hk (Nat.le_refl _))
  have g1 : ¬ 9223372036854775807 < (⟨#[47]⟩ : ByteArray).size + t.size := by show ¬ _ < 1 + t.size; omega
  have g2 : (⟨#[47]⟩ ++ t : ByteArray).size ≤ 64 := by rw [ByteArray.size_append]; show 1 + t.size ≤ 64; omega
  clear hk
  go_wp2_with fail
  refine Calls.mono (l92Path_any _ _ _ hr3 (by omega)) ?_
  rintro e w4 ⟨s2, q3, rfl, hs2, hr4, hq3, hk⟩
  have HB4 := Lib.hid (kp_below HB3.out hk (Nat.le_refl _))
  have g3 : ¬ 9223372036854775807 < s2.size + (⟨#[47, 97]⟩ : ByteArray).size := by show ¬ _ < s2.size + 2; omega
  have g4 : (s2 ++ ⟨#[47, 97]⟩ : ByteArray).size ≤ 64 := by rw [ByteArray.size_append]; show s2.size + 2 ≤ 64; omega
  clear hk
  go_wp2_with fail
  refine Calls.mono (pick_nat _ w.heap.size (0 + q + q2 + q3) _ (Rs.alloc hr4 _) (by omega) (by omega) (by omega)) ?_
  rintro e w5 ⟨j, rfl, hj, hr5, hk5⟩
  have HB5 := Lib.hid (kp_below (below_alloc HB4.out _) hk5 (Nat.le_refl _))
  have hru := hk5.rule
  have hsz := hk5.size
  have hrl : w.heap.size < w4.heap.size := hr4.lt
  have hne : ¬ w4.heap.size = w.heap.size := by omega
  simp only [World.size_alloc, Nat.add_one_le_iff] at hsz
  obtain ⟨u, hu, hus⟩ := lit_str 64 [s, ⟨#[47]⟩ ++ t, s2 ++ ⟨#[47, 97]⟩] (by
    intro x hx
    simp at hx
    rcases hx with rfl | rfl | rfl
    · omega
    · exact g2
    · exact g4) j hj
  simp only [List.map] at hu
  have hj1 : (j : Int) < 3 := by simp at hj; omega
  clear hj hk5 hr5
  go_wp2_with fail
  go_ret
  exact ⟨u, rfl, hus, HB5.out⟩

set_option maxHeartbeats 1600000 in
theorem drawPathNames_any (w : World) (A : Option Addr) (cap : Nat) (zs : List Int) (h : RdT (encI .u8) 1 w A zs) (hb : ∀ z ∈ zs, 0 ≤ z ∧ z ≤ 255) (hc : zs.length ≤ cap) (hm : cap ≤ 9223372036854775807) :
    Calls Tryd.prog 46 #[.slice A zs.length cap] w (Str1 w) := by
  have HO := Lib.hid (open_any w A cap zs h hb hc hm)
  clear h hb
  generalize zs.length = n at HO hc ⊢
  go_enter Tryd.func46, Tryd.ntmps46
  go_wp2_with fail
  refine Calls.mono HO.out ?_
  rintro e w1 ⟨rfl, hr, hB⟩
  have HB := Lib.hid hB
  clear hB
  go_wp2_with fail
  refine Calls.mono (l92Path_any _ _ _ hr (by omega)) ?_
  rintro e w2 ⟨s, q, rfl, hs, hr2, hq, hk⟩
  have HB2 := Lib.hid (kp_below HB.out hk (Nat.le_refl _))
  clear hk
  go_wp2_with fail
  refine Calls.mono (l91Text_any _ _ _ 6 hr2 (by omega) (by omega)) ?_
  rintro e w3 ⟨t, q2, rfl, ht, hr3, hq2, hk⟩
  have HB3 := Lib.hid (kp_below HB2.out hk (Nat.le_refl _))
  have g1 : ¬ 9223372036854775807 < (⟨#[47]⟩ : ByteArray).size + t.size := by show ¬ _ < 1 + t.size; omega
  have g2 : (⟨#[47]⟩ ++ t : ByteArray).size ≤ 64 := by rw [ByteArray.size_append]; show 1 + t.size ≤ 64; omega
  clear hk
  go_wp2_with fail
  refine Calls.mono (l92Path_any _ _ _ hr3 (by omega)) ?_
  rintro e w4 ⟨s2, q3, rfl, hs2, hr4, hq3, hk⟩
  have HB4 := Lib.hid (kp_below HB3.out hk (Nat.le_refl _))
  have g3 : ¬ 9223372036854775807 < s2.size + (⟨#[47, 97]⟩ : ByteArray).size := by show ¬ _ < s2.size + 2; omega
  have g4 : (s2 ++ ⟨#[47, 97]⟩ : ByteArray).size ≤ 64 := by rw [ByteArray.size_append]; show s2.size + 2 ≤ 64; omega
  clear hk
  go_wp2_with fail
  refine Calls.mono (pick_nat _ w.heap.size (0 + q + q2 + q3) _ (Rs.alloc hr4 _) (by omega) (by omega) (by omega)) ?_
  rintro e w5 ⟨j, rfl, hj, hr5, hk5⟩
  have HB5 := Lib.hid (kp_below (below_alloc HB4.out _) hk5 (Nat.le_refl _))
  have hru := hk5.rule
  have hsz := hk5.size
  have hrl : w.heap.size < w4.heap.size := hr4.lt
  have hne : ¬ w4.heap.size = w.heap.size := by omega
  simp only [World.size_alloc, Nat.add_one_le_iff] at hsz
  obtain ⟨u, hu, hus⟩ := lit_str 64 [s, ⟨#[47]⟩ ++ t, s2 ++ ⟨#[47, 97]⟩] (by
    intro x hx
    simp at hx
    rcases hx with rfl | rfl | rfl
    · omega
    · exact g2
    · exact g4) j hj
  simp only [List.map] at hu
  have hj1 : (j : Int) < 3 := by simp at hj; omega
  clear hj hk5 hr5
  go_wp2_with fail
  go_ret
  exact ⟨u, rfl, hus, HB5.out⟩

end Go.Proofs.YtanccfiiemlmeaaDoor
