/- Paths, the reference's functions: the last name, the folder, joining, being under. -/
import Derived.Test.YtanccfiiemlmeaaDoorPathSpec2
namespace Go.Proofs.YtanccfiiemlmeaaDoor
open Go.RowKit
set_option linter.unusedVariables false
set_option linter.unusedSimpArgs false

/-- A row of texts of the call's own: nothing, or a block of it. -/
theorem Own.two {base : Nat} {w : World} {v : Value} {xs : List ByteArray} (h : Own encS 1 9 base w v xs) :
    (xs = [] ∧ ∃ A c, v = .slice A 0 c ∧ c ≤ 9223372036854775807) ∨ (xs ≠ [] ∧ ∃ g cap, v = .slice (some ⟨g, 0, none⟩) xs.length cap ∧ xs.length ≤ cap ∧ cap ≤ 9223372036854775807 ∧ RdT encS 1 w (some ⟨g, 0, none⟩) xs ∧ base ≤ g ∧ g < w.heap.size) := by
  obtain ⟨A, cap, rfl, h1, h2, hf, h3⟩ := h.form
  by_cases hx : xs = []
  · subst hx
    exact .inl ⟨rfl, A, cap, rfl, h2⟩
  · have hn : 0 < xs.length := List.length_pos_iff.2 hx
    rcases h.2 with ⟨hv, h0⟩ | ⟨g, cap', cur, hv, _⟩
    · omega
    · cases hv
      obtain ⟨a, b⟩ := hf _ rfl
      exact .inr ⟨hx, g, cap, rfl, h1, h2, h3, a, b⟩

theorem sub_one_nat (m : Nat) : ((m + 1 : Nat) : Int) - 1 = (m : Int) := by omega

set_option maxHeartbeats 1000000 in
theorem specPathBase_any (w : World) (s : ByteArray) (hs : s.size ≤ 1048576) :
    Calls Tryd.prog 20 #[.string s] w fun e w' => e = .returned (.string (baseT s)) ∧ Below w.heap.size w w' := by
  have HP := Lib.hid (specPathNames_any w s hs)
  rcases baseT_cases s with ⟨hn, hb, _⟩ | ⟨xs, n, hp, hn, hb, _, _, _, hok⟩
  · rw [hn] at HP
    have HE := Lib.hid (show (⟨#[]⟩ : ByteArray) = baseT s from hb.symm)
    cases hpb : pathB s
    all_goals
      rw [hpb] at HP
      go_enter Tryd.func20, Tryd.ntmps20
      go_wp2_with fail
      refine Calls.mono HP.out ?_
      rintro e w1 ⟨v, rfl, hO, hB⟩
      have HB := Lib.hid hB
      clear hB
      rcases hO.two with ⟨_, A, c, rfl, _⟩ | ⟨h, _⟩
      · clear hO
        go_wp2_with fail
        go_ret
        exact ⟨ret_str HE.out, HB.out⟩
      · exact absurd rfl h
  · rw [hn, hp] at HP
    have HE := Lib.hid hb.symm
    have hl : (xs ++ [n]).length = xs.length + 1 := by simp
    have hm := (all_nameB hok).1
    rw [hl] at hm
    go_enter Tryd.func20, Tryd.ntmps20
    go_wp2_with fail
    refine Calls.mono HP.out ?_
    rintro e w1 ⟨v, rfl, hO, hB⟩
    have HB := Lib.hid hB
    clear hB
    rcases hO.two with ⟨h, _⟩ | ⟨_, g, cap, rfl, hc, hcm, hrd, hg, hgl⟩
    · simp at h
    · obtain ⟨b, off, x, hx, hb, he, c0⟩ := hrd.str (k := xs.length) (by rw [hl]; omega)
      cases hx
      obtain rfl : n = x := by simpa using he
      rw [hl] at hc ⊢
      clear hO hrd he hn HP
      generalize xs.length = m at *
      simp only [Nat.zero_add] at c0
      go_wp2_with fail
      go_ret
      exact ⟨ret_str HE.out, HB.out⟩

set_option maxHeartbeats 1000000 in
theorem specPathFolder_any (w : World) (s : ByteArray) (hs : s.size ≤ 1048576) :
    Calls Tryd.prog 25 #[.string s] w fun e w' => e = .returned (.string (folderT s)) ∧ Below w.heap.size w w' := by
  have HP := Lib.hid (specPathNames_any w s hs)
  rcases baseT_cases s with ⟨hn, _, hb⟩ | ⟨xs, n, hp, hn, _, hb, _, hok0, hok⟩
  · rw [hn] at HP
    have HE := Lib.hid (show (⟨#[]⟩ : ByteArray) = folderT s from hb.symm)
    cases hpb : pathB s
    all_goals
      rw [hpb] at HP
      go_enter Tryd.func25, Tryd.ntmps25
      go_wp2_with fail
      refine Calls.mono HP.out ?_
      rintro e w1 ⟨v, rfl, hO, hB⟩
      have HB := Lib.hid hB
      clear hB
      rcases hO.two with ⟨_, A, c, rfl, _⟩ | ⟨h, _⟩
      · clear hO
        go_wp2_with fail
        go_ret
        exact ⟨ret_str HE.out, HB.out⟩
      · exact absurd rfl h
  · rw [hn, hp] at HP
    have HE := Lib.hid hb.symm
    have hl : (xs ++ [n]).length = xs.length + 1 := by simp
    have hm := (all_nameB hok).1
    rw [hl] at hm
    have HZ := Lib.hid (fun x hx => (nameB_size ((all_nameB hok0).2 x hx)).2)
    go_enter Tryd.func25, Tryd.ntmps25
    go_wp2_with fail
    refine Calls.mono HP.out ?_
    rintro e w1 ⟨v, rfl, hO, hB⟩
    have HB := Lib.hid hB
    clear hB
    rcases hO.two with ⟨h, _⟩ | ⟨_, g, cap, rfl, hc, hcm, hrd, hg, hgl⟩
    · simp at h
    · have HR := Lib.hid (show RdT encS 1 w1 (some ⟨g, 0, none⟩) xs by have := hrd.take xs.length; rwa [List.take_left'] at this; rfl)
      rw [hl] at hc ⊢
      have HL := Lib.hid (l14Of_any w1 (some ⟨g, 0, none⟩) cap xs HR.out (by omega) hcm HZ.out (by omega))
      clear hO hrd hn HP
      generalize xs.length = m at *
      go_wp2_with fail
      refine Calls.mono HL.out ?_
      rintro e w2 ⟨rfl, hB⟩
      have HB2 := Lib.hid (below_below HB.out hB)
      clear hB
      go_wp2_with fail
      go_ret
      exact ⟨ret_str HE.out, HB2.out⟩

theorem join_yes {s n : ByteArray} (h : pathB s = true) : joinB s n = pathOfB (namesT s ++ [n]) ∧ joinT s n = pathOfT (namesT s ++ [n]) := by
  have : joinB s n = pathOfB (namesT s ++ [n]) := by simp [joinB, h]
  exact ⟨this, by rw [joinT, this]; rfl⟩
theorem join_no {s n : ByteArray} (h : pathB s = false) : joinB s n = false ∧ joinT s n = ⟨#[]⟩ := by
  have : joinB s n = false := by simp [joinB, h]
  exact ⟨this, by rw [joinT, this]; rfl⟩

set_option maxHeartbeats 1000000 in
theorem specPathJoin_any (w : World) (s n : ByteArray) (hs : s.size ≤ 1048576) (hn : n.size ≤ 1048576) :
    Calls Tryd.prog 34 #[.string s, .string n] w (Of2 w (joinB s n) (joinT s n)) := by
  have HP := Lib.hid (specPathNames_any w s hs)
  cases hpb : pathB s
  · have E := Lib.hid (join_no (n := n) hpb)
    rw [hpb] at HP
    go_enter Tryd.func34, Tryd.ntmps34
    go_wp2_with fail
    refine Calls.mono HP.out ?_
    rintro e w1 ⟨v, rfl, hO, hB⟩
    obtain ⟨A, cap, rfl, _⟩ := hO.form
    go_wp2_with fail
    go_ret2
    refine (?_ : Of2 w (joinB s n) (joinT s n) _ _)
    rw [E.out.1, E.out.2]
    exact ⟨rfl, hB⟩
  · have E := Lib.hid (join_yes (n := n) hpb)
    have hok := all_nameB (namesT_ok hpb)
    have L1 := hok.1
    have HZ := Lib.hid (show ∀ x ∈ namesT s ++ [n], x.size ≤ 9223372036854775807 from fun x hx => by
      rcases List.mem_append.1 hx with hx | hx
      · have := (nameB_size (hok.2 x hx)).2; omega
      · simp at hx; rw [hx]; omega)
    have K1 := Lib.hid (And.intro (show ((namesT s).length + 1) * 16 ≤ 140737488355328 by omega) (show (namesT s).length + 1 ≤ maxLen by unfold maxLen; omega))
    clear hok
    rw [hpb] at HP
    generalize namesT s = xs at *
    go_enter Tryd.func34, Tryd.ntmps34
    go_wp2_with fail
    refine Calls.mono HP.out ?_
    rintro e w1 ⟨v, rfl, hO, hB⟩
    obtain ⟨A, cap, rfl, _⟩ := hO.form
    have HO := Lib.hid hO
    have HB := Lib.hid hB
    clear hO hB HP
    go_wp2_with (at_builtin; refine wpList_app (ys := ([n] : List ByteArray)) elS rfl _ _ rfl (by rfl) (own_allocS HO.out _) (by rfl) rfl (rd_oneS _ _) oneS K1.out.1 K1.out.2 (below_allocS HB.out _).size ?_; intro v1 w2 ownv1 grv1 atv1; have belv1 := Lib.hid (below_grownS (below_allocS HB.out _) (own_allocS HO.out _) grv1); obtain ⟨A2, cap2, rfl, hc2, hcm2, _, hrd2⟩ := ownv1.form; have HR2 := Lib.hid hrd2; clear ownv1 hrd2 atv1 grv1; generalize xs ++ [n] = zs at *)
    refine Calls.mono (specPathOf_any w2 A2 cap2 _ HR2.out hc2 hcm2 HZ.out) ?_
    rintro e w3 ⟨rfl, hB3⟩
    have HB3 := Lib.hid (below_below belv1.out hB3)
    clear hB3
    go_wp2_with fail
    go_ret2
    refine (?_ : Of2 w (joinB s n) (joinT s n) _ _)
    rw [E.out.1, E.out.2]
    exact ⟨rfl, HB3.out⟩

theorem under_eq {s t : ByteArray} (hs : pathB s = true) (ht : pathB t = true) (h : (namesT t).length ≤ (namesT s).length) : ((pathT ((namesT s).take (namesT t).length)).toList == (pathT (namesT t)).toList) = underB s t := by
  have o1 := all_nameB (namesT_ok hs)
  have o2 := all_nameB (namesT_ok ht)
  have e : underB s t = decide ((namesT s).take (namesT t).length = namesT t) := by simp [underB, hs, ht, h]
  rw [e]
  by_cases he : (namesT s).take (namesT t).length = namesT t
  · rw [he]
    simp
  · have : ¬ (pathT ((namesT s).take (namesT t).length)).toList = (pathT (namesT t)).toList := fun h' => he (by
      rw [Lib.toList_data, Lib.toList_data] at h'
      have h2 := ofL_ext h'
      have h3 := names_pathT (xs := (namesT s).take (namesT t).length) (fun x hx => o1.2 x (List.mem_of_mem_take hx))
      have h4 := names_pathT o2.2
      rw [← h3, h2, h4])
    rw [decide_eq_false he]
    simpa using this
theorem under_no {s t : ByteArray} (h : pathB s = false ∨ pathB t = false ∨ ¬ (namesT t).length ≤ (namesT s).length) : underB s t = false := by
  rcases h with h | h | h <;> simp [underB, h]

set_option maxHeartbeats 2000000 in
theorem specPathUnder_any (w : World) (s t : ByteArray) (hs : s.size ≤ 1048576) (ht : t.size ≤ 1048576) :
    Calls Tryd.prog 32 #[.string s, .string t] w fun e w' => e = .returned (.bool (underB s t)) ∧ Below w.heap.size w w' := by
  have HP := Lib.hid (specPathNames_any w s hs)
  have HQ := Lib.hid (fun w => specPathNames_any w t ht)
  cases hp : pathB s <;> cases hq : pathB t
  case true.true =>
    by_cases hle : (namesT t).length ≤ (namesT s).length
    · have E := Lib.hid (under_eq hp hq hle)
      have o1 := all_nameB (namesT_ok hp)
      have o2 := all_nameB (namesT_ok hq)
      have HZ1 := Lib.hid (fun x hx => (nameB_size (o1.2 x hx)).2)
      have HZ2 := Lib.hid (fun x hx => (nameB_size (o2.2 x hx)).2)
      have l1 := o1.1
      have l2 := o2.1
      rw [hp] at HP
      rw [hq] at HQ
      clear o1 o2 hp hq
      generalize namesT s = xs at *
      generalize namesT t = ys at *
      go_enter Tryd.func32, Tryd.ntmps32
      go_wp2_with fail
      refine Calls.mono HP.out ?_
      rintro e w1 ⟨v, rfl, hO, hB⟩
      obtain ⟨A, cap, rfl, hc, hcm, _, hrd⟩ := hO.form
      have HR := Lib.hid hrd
      have HB := Lib.hid hB
      clear hB hrd
      go_wp2_with fail
      refine Calls.mono (HQ.out w1) ?_
      rintro e w2 ⟨v, rfl, hO2, hB⟩
      obtain ⟨A2, cap2, rfl, hc2, hcm2, _, hrd2⟩ := hO2.form
      have HR2 := Lib.hid hrd2
      have HR1 := Lib.hid (HR.out.below hB)
      have HB2 := Lib.hid (below_below HB.out hB)
      clear hB hrd2 hO hO2 HR HQ HP
      have hl : (xs.take ys.length).length = ys.length := by rw [List.length_take]; omega
      have HR3 := Lib.hid (show RdT encS 1 w2 A (xs.take ys.length) from HR1.out.take _)
      have HZ3 := Lib.hid (show ∀ x ∈ xs.take ys.length, x.size ≤ 4 from fun x hx => HZ1.out x (List.mem_of_mem_take hx))
      have HL := Lib.hid (l14Of_any w2 A cap (xs.take ys.length) HR3.out (by omega) hcm HZ3.out (by omega))
      rw [hl] at HL
      go_wp2_with fail
      refine Calls.mono HL.out ?_
      rintro e w3 ⟨rfl, hB⟩
      have HR4 := Lib.hid (HR2.out.below hB)
      have HB3 := Lib.hid (below_below HB2.out hB)
      clear hB HL HR3 HZ3 hl
      go_wp2_with fail
      refine Calls.mono (l14Of_any w3 A2 cap2 ys HR4.out hc2 hcm2 HZ2.out l2) ?_
      rintro e w4 ⟨rfl, hB⟩
      have HB4 := Lib.hid (below_below HB3.out hB)
      clear hB
      go_wp2_with fail
      go_ret
      exact ⟨ret_bool E.out, HB4.out⟩
    · have E := Lib.hid (under_no (s := s) (t := t) (.inr (.inr hle)))
      have l1 := (all_nameB (namesT_ok hp)).1
      have l2 := (all_nameB (namesT_ok hq)).1
      rw [hp] at HP
      rw [hq] at HQ
      clear hp hq
      generalize namesT s = xs at *
      generalize namesT t = ys at *
      have q1 : xs.length < ys.length := by omega
      go_enter Tryd.func32, Tryd.ntmps32
      go_wp2_with fail
      refine Calls.mono HP.out ?_
      rintro e w1 ⟨v, rfl, hO, hB⟩
      obtain ⟨A, cap, rfl, hc, hcm, _, hrd⟩ := hO.form
      have HB := Lib.hid hB
      clear hB hrd
      go_wp2_with fail
      refine Calls.mono (HQ.out w1) ?_
      rintro e w2 ⟨v, rfl, hO2, hB⟩
      obtain ⟨A2, cap2, rfl, hc2, hcm2, _, hrd2⟩ := hO2.form
      have HB2 := Lib.hid (below_below HB.out hB)
      clear hB hrd2 hO hO2 HQ HP
      go_wp2_with fail
      go_ret
      exact ⟨ret_bool E.out.symm, HB2.out⟩
  all_goals
    have E := Lib.hid (show underB s t = false from under_no (by first | exact .inl hp | exact .inr (.inl hq)))
    rw [hp] at HP
    rw [hq] at HQ
    go_enter Tryd.func32, Tryd.ntmps32
    go_wp2_with fail
    refine Calls.mono HP.out ?_
    rintro e w1 ⟨v, rfl, hO, hB⟩
    obtain ⟨A, cap, rfl, hc, hcm, _, hrd⟩ := hO.form
    have HB := Lib.hid hB
    clear hB hrd
    go_wp2_with fail
    refine Calls.mono (HQ.out w1) ?_
    rintro e w2 ⟨v, rfl, hO2, hB⟩
    obtain ⟨A2, cap2, rfl, hc2, hcm2, _, hrd2⟩ := hO2.form
    have HB2 := Lib.hid (below_below HB.out hB)
    clear hB hrd2 hO hO2 HQ HP
    go_wp2_with fail
    go_ret
    exact ⟨ret_bool E.out.symm, HB2.out⟩

end Go.Proofs.YtanccfiiemlmeaaDoor
