/- A text spoilt: a byte changed, cut out or added. -/
import Derived.Test.YtjalboplilolkaaDoorDrawText
import Derived.Test.YtjalboplilolkaaDoorNum
namespace Go.Proofs.YtjalboplilolkaaDoor
open Go.RowKit Go.Sort
set_option maxRecDepth 100000
set_option linter.unusedVariables false
set_option linter.unusedSimpArgs false
attribute [local go_sem ↓] Go.wp_at_zero Go.wp_at_succ

theorem ext_size (s : ByteArray) (a b : Nat) : (s.extract a b).size ≤ s.size := by
  rw [ByteArray.size_extract]
  omega

theorem lit_str2 (m : Nat) (l : List ByteArray) (h : ∀ x ∈ l, x.size ≤ m) (k : Nat) (hk : k < l.length) : ∃ s, (l.map (Value.string))[k]'(by simpa using hk) = .string s ∧ s.size ≤ m := ⟨l[k], by simp, h _ (List.getElem_mem hk)⟩
set_option maxHeartbeats 4000000 in
theorem l91Spoil_any (w : World) (rb p : Nat) (s : ByteArray) (h : Rs w rb p) (hp : p ≤ 1000000) (hs : s.size ≤ 1000000) :
    Calls Tryd.prog 45 #[.pointer (some ⟨rb, 0, none⟩), .string s] w (StrD (s.size + 4) 16 w rb p) := by
  have hr := h
  clear h
  have hl := hr.lt
  by_cases hz : s.size = 0
  · have hs0 : s = ⟨#[]⟩ := ofL_ext (List.length_eq_zero_iff.1 (by rw [Array.length_toList]; exact hz))
    subst hs0
    go_enter Tryd.func45, Tryd.ntmps45
    go_wp2_with fail
    refine Calls.mono (l91Text_any w rb p 4 hr (by omega) (by omega)) ?_
    rintro e w2 ⟨t, q, rfl, ht, hr2, hq, hk⟩
    have K := Lib.hid (And.intro hr2 hk)
    clear hr2 hk
    go_wp2_with fail
    go_ret
    exact ⟨t, q, rfl, by omega, K.out.1, by omega, K.out.2⟩
  · have hne : s.data.toList ≠ [] := fun e => hz (by
      have h3 : s.data.toList.length = s.size := Array.length_toList
      rw [e] at h3
      exact h3.symm)
    have hq2 : s.toList.isEmpty = false := by
      rw [Lib.toList_data]
      simpa using hne
    have hq1 : (s.toList == (⟨#[]⟩ : ByteArray).toList) = false := by
      rw [Lib.toList_data, Lib.toList_data]
      simpa using hne
    have HX := Lib.hid (ext_size s)
    clear hne
    go_enter Tryd.func45, Tryd.ntmps45
    go_wp2_with fail
    refine Calls.mono (pick_nat _ _ _ _ hr (by omega) (by omega) (by omega)) ?_
    rintro e w1 ⟨k, rfl, hk0, hr1, hk1⟩
    have hks : k < s.size := by simp at hk0; omega
    clear hk0
    go_wp2_with fail
    refine Calls.mono (pick_nat _ _ _ _ hr1 (by omega) (by omega) (by omega)) ?_
    rintro e w2 ⟨j, rfl, hj0, hr2, hk2⟩
    have hj4 : j < 4 := by simp at hj0; omega
    have K2 := Lib.hid (And.intro hr2 (hk1.trans hk2))
    clear hj0 hk1 hk2 hr1
    by_cases j0 : j = 0
    · subst j0
      have z1 := ext_size s 0 k
      have z2 := ext_size s (k + 1) s.size
      go_wp2_with fail
      refine wp_quiet_b (by kernel_rfl) (by kernel_rfl) (fun hgrow => ?_)
      repeat (go_big_quiet_step (fail))
      refine wpQuiet_nil ?_
      intro w3 hww3
      replace hww3 := below_of_regrown hww3
      clear hgrow
      have HW := Lib.hid (show (s.extract 0 k ++ s.extract (k + 1) s.size).size ≤ s.size + 4 by rw [ByteArray.size_append]; rw [ByteArray.size_extract, ByteArray.size_extract]; omega)
      have HK3 := Lib.hid (And.intro (K2.out.1.below hww3) (K2.out.2.trans ((Kp.of_below hww3).all _)))
      clear z1 z2
      go_wp2_with fail
      go_ret
      exact ⟨_, 2, rfl, HW.out, HK3.out.1, by omega, HK3.out.2⟩
    by_cases j1 : j = 1
    · subst j1
      have z1 := ext_size s 0 k
      go_wp2_with fail
      go_ret
      exact ⟨_, 2, rfl, by omega, K2.out.1, by omega, K2.out.2⟩
    by_cases j2 : j = 2
    · subst j2
      have z1 := ext_size s 0 k
      have z2 := ext_size s (k + 1) s.size
      have hl2 := K2.out.1.lt
      have i0 : (0 : Int) ≤ (k : Int) := by omega
      have i1 : (k : Int) ≤ (s.size : Int) := by omega
      have i2 : (k : Int) + 1 ≤ (s.size : Int) := by omega
      have i3 : (0 : Int) ≤ (k : Int) + 1 := by omega
      have i4 : (k : Int) < (s.size : Int) := by omega
      have i5 : IntKind.i64.wrap ((k : Int) + 1) = (k : Int) + 1 := IntWalk.i64_in _ (by omega)
      --R1
      go_wp2_with fail
      --R2
      go_region_with (go_at_call 44; refine Calls.mono (pick_nat _ rb (p + 1 + 1) 256 ?h0 ?h1 ?h2 ?h3) ?_; (case h0 => first | exact Rs.drew K2.out.1 | exact K2.out.1); (case h1 => omega); (case h2 => omega); (case h3 => omega); rintro e w4 ⟨m, rfl, hm, hr4, hk4⟩; have hm2 : m < 256 := (by simpa using hm); have hu := IntWalk.u8_in (m : Int) (by omega); have HK4 := Lib.hid (And.intro hr4 (K2.out.2.trans ((Kp.refl [rb] w2).drew.trans hk4))); have hD := digit_text w4 (m : Int) m 1 hm2 rfl; have s1 : ¬ 9223372036854775807 < (s.extract 0 k).size + 1 := (by omega); have s2 : ¬ 9223372036854775807 < (s.extract 0 k ++ (⟨#[UInt8.ofNat m]⟩ : ByteArray)).size + (s.extract (k + 1) s.size).size := (by rw [ByteArray.size_append]; show ¬ _ < (s.extract 0 k).size + 1 + _; omega); clear hm hk4 hr4)
      all_goals
        have hw3 : (s.extract 0 k ++ ⟨#[UInt8.ofNat m]⟩ ++ s.extract (k + 1) s.size).size ≤ s.size + 4 := by
          rw [ByteArray.size_append, ByteArray.size_append]
          show (s.extract 0 k).size + 1 + (s.extract (k + 1) s.size).size ≤ _
          rw [ByteArray.size_extract, ByteArray.size_extract]
          omega
        have HW := Lib.hid hw3
        clear hw3
        go_wp2_with fail
        go_ret
        exact ⟨_, 3, rfl, HW.out, Rs.alloc HK4.out.1 _, by omega, HK4.out.2.alloc _⟩
    · have hj3 : j = 3 := by omega
      subst hj3
      have hl2 := K2.out.1.lt
      go_wp2_with fail
      refine Calls.mono (pick_nat _ _ _ _ (Rs.alloc K2.out.1 _) (by omega) (by omega) (by omega)) ?_
      rintro e w4 ⟨m, rfl, hm, hr4, hk4⟩
      have hru := hk4.rule
      have hsz := hk4.size
      simp only [World.size_alloc, Nat.add_one_le_iff] at hsz
      have hm6 : m < 6 := by simpa using hm
      obtain ⟨u, hu, hus⟩ := lit_str2 1 [⟨#[48]⟩, ⟨#[58]⟩, ⟨#[46]⟩, ⟨#[45]⟩, ⟨#[59]⟩, ⟨#[32]⟩] (by decide) m hm6
      simp only [List.map] at hu
      have hm7 : (m : Int) < 6 := by omega
      have hne2 : ¬ w2.heap.size = rb := by omega
      have HK4 := Lib.hid (And.intro hr4 ((K2.out.2.alloc _).trans hk4))
      have q2 : ¬ 9223372036854775807 < s.size + u.size := by omega
      clear hm hk4 hr4
      go_wp2_with fail
      go_ret
      exact ⟨_, 3, rfl, by rw [ByteArray.size_append]; omega, HK4.out.1, by omega, HK4.out.2⟩

end Go.Proofs.YtjalboplilolkaaDoor
