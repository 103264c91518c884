/- Paths, the program's functions: whether, the last name, the folder, joining, being under. -/
import Derived.Test.YtanccfiiemlmeaaDoorPathImpl2
namespace Go.Proofs.YtanccfiiemlmeaaDoor
open Go.RowKit
set_option linter.unusedVariables false
set_option linter.unusedSimpArgs false

theorem pathOk_any (w : World) (s : ByteArray) (hM : MaxAt w) (hs : s.size ≤ 1048576) :
    Calls Tryd.prog 19 #[.string s] w fun e w' => e = .returned (.bool (pathB s)) ∧ Below w.heap.size w w' := by
  have HP := Lib.hid (pathNames_any w s hM hs)
  generalize pathB s = b at *
  go_enter Tryd.func19, Tryd.ntmps19
  go_wp2_with fail
  refine Calls.mono HP.out ?_
  rintro e w1 ⟨v, rfl, hO, hB⟩
  obtain ⟨A, cap, rfl, _⟩ := hO.form
  have HB := Lib.hid hB
  clear hB
  go_wp2_with fail
  go_ret
  exact ⟨rfl, HB.out⟩

def SplitPost (w : World) (f n : ByteArray) (e : Ending) (w' : World) : Prop := e = .returned (.tuple #[.string f, .string n]) ∧ Below w.heap.size w w'

set_option maxHeartbeats 1000000 in
theorem splitPath_any (w : World) (s : ByteArray) (hM : MaxAt w) (hs : s.size ≤ 1048576) :
    Calls Tryd.prog 51 #[.string s] w (SplitPost w (folderT s) (baseT s)) := by
  have HP := Lib.hid (pathNames_any w s hM hs)
  rcases baseT_cases s with ⟨hn, hb, hf⟩ | ⟨xs, n, hp, hn, hb, hf, _, hok0, hok⟩
  · rw [hn] at HP
    rw [hb, hf]
    cases hpb : pathB s
    all_goals
      rw [hpb] at HP
      go_enter Tryd.func51, Tryd.ntmps51
      go_wp2_with fail
      refine Calls.mono HP.out ?_
      rintro e w1 ⟨v, rfl, hO, hB⟩
      have HB := Lib.hid hB
      clear hB
      rcases hO.two with ⟨_, A, c, rfl, _⟩ | ⟨h, _⟩
      · clear hO
        go_wp2_with fail
        go_ret2
        exact ⟨rfl, HB.out⟩
      · exact absurd rfl h
  · rw [hn, hp] at HP
    rw [hb, hf]
    have hl : (xs ++ [n]).length = xs.length + 1 := by simp
    have hm := (all_nameB hok).1
    rw [hl] at hm
    have HZ := Lib.hid (fun x hx => (nameB_size ((all_nameB hok0).2 x hx)).2)
    go_enter Tryd.func51, Tryd.ntmps51
    go_wp2_with fail
    refine Calls.mono HP.out ?_
    rintro e w1 ⟨v, rfl, hO, hB⟩
    have HB := Lib.hid hB
    clear hB
    rcases hO.two with ⟨h, _⟩ | ⟨_, g, cap, rfl, hc, hcm, hrd, hg, hgl⟩
    · simp at h
    · have HR := Lib.hid (show RdT encS 1 w1 (some ⟨g, 0, none⟩) xs by have := hrd.take xs.length; rwa [List.take_left'] at this; rfl)
      obtain ⟨b, off, x, hx, hbl, he, c0⟩ := hrd.str (k := xs.length) (by rw [hl]; omega)
      cases hx
      obtain rfl : n = x := by simpa using he
      rw [hl] at hc ⊢
      simp only [Nat.zero_add] at c0
      have HL := Lib.hid (show ∀ w', Below w1.heap.size w1 w' → _ from fun w' hB => pathText_any w' (some ⟨g, 0, none⟩) cap xs (HR.out.below hB) (by omega) hcm HZ.out (by omega))
      clear hO hrd hn HP he hb hf hp
      generalize xs.length = m at *
      go_wp2_with fail
      refine wp_quiet_b (by kernel_rfl) (by kernel_rfl) (fun hgrow => ?_)
      repeat (go_big_quiet_step ((go_at_call 63; exact quiet_b (HL.out _ (below_regrown _ _ _)))))
      refine wpQuiet_nil ?_
      intro w2 hww2
      replace hww2 := below_of_regrown hww2
      clear hgrow
      go_wp2_with fail
      go_ret2
      exact ⟨rfl, below_below HB.out hww2⟩

theorem pathBase_any (w : World) (s : ByteArray) (hM : MaxAt w) (hs : s.size ≤ 1048576) :
    Calls Tryd.prog 21 #[.string s] w fun e w' => e = .returned (.string (baseT s)) ∧ Below w.heap.size w w' := by
  have HP := Lib.hid (splitPath_any w s hM hs)
  generalize baseT s = b at *
  generalize folderT s = f at *
  go_enter Tryd.func21, Tryd.ntmps21
  go_wp2_with fail
  refine Calls.mono HP.out ?_
  rintro e w1 ⟨rfl, hB⟩
  have HB := Lib.hid hB
  clear hB
  go_wp2_with fail
  go_ret
  exact ⟨rfl, HB.out⟩

theorem pathFolder_any (w : World) (s : ByteArray) (hM : MaxAt w) (hs : s.size ≤ 1048576) :
    Calls Tryd.prog 26 #[.string s] w fun e w' => e = .returned (.string (folderT s)) ∧ Below w.heap.size w w' := by
  have HP := Lib.hid (splitPath_any w s hM hs)
  generalize baseT s = b at *
  generalize folderT s = f at *
  go_enter Tryd.func26, Tryd.ntmps26
  go_wp2_with fail
  refine Calls.mono HP.out ?_
  rintro e w1 ⟨rfl, hB⟩
  have HB := Lib.hid hB
  clear hB
  go_wp2_with fail
  go_ret
  exact ⟨rfl, HB.out⟩

set_option maxHeartbeats 1000000 in
theorem pathJoin_any (w : World) (s n : ByteArray) (hM : MaxAt w) (hs : s.size ≤ 1048576) (hn : n.size ≤ 1048576) :
    Calls Tryd.prog 35 #[.string s, .string n] w (Of2 w (joinB s n) (joinT s n)) := by
  have HP := Lib.hid (pathNames_any w s hM hs)
  cases hpb : pathB s
  · have E := Lib.hid (join_no (n := n) hpb)
    rw [hpb] at HP
    go_enter Tryd.func35, Tryd.ntmps35
    go_wp2_with fail
    refine Calls.mono HP.out ?_
    rintro e w1 ⟨v, rfl, hO, hB⟩
    obtain ⟨A, cap, rfl, _⟩ := hO.form
    go_wp2_with fail
    go_ret2
    refine (?_ : Of2 w (joinB s n) (joinT s n) _ _)
    rw [E.out.1, E.out.2]
    exact ⟨rfl, hB⟩
  · have E := Lib.hid (join_yes (n := n) hpb)
    have hok := all_nameB (namesT_ok hpb)
    have L1 := hok.1
    have HZ := Lib.hid (show ∀ x ∈ namesT s ++ [n], x.size ≤ 9223372036854775807 from fun x hx => by
      rcases List.mem_append.1 hx with hx | hx
      · have := (nameB_size (hok.2 x hx)).2; omega
      · simp at hx; rw [hx]; omega)
    have K1 := Lib.hid (And.intro (show ((namesT s).length + 1) * 16 ≤ 140737488355328 by omega) (show (namesT s).length + 1 ≤ maxLen by unfold maxLen; omega))
    clear hok
    rw [hpb] at HP
    generalize namesT s = xs at *
    go_enter Tryd.func35, Tryd.ntmps35
    go_wp2_with fail
    refine Calls.mono HP.out ?_
    rintro e w1 ⟨v, rfl, hO, hB⟩
    obtain ⟨A, cap, rfl, _⟩ := hO.form
    have HO := Lib.hid hO
    have HB := Lib.hid hB
    clear hO hB HP
    go_wp2_with (at_builtin; refine wpList_app (ys := ([n] : List ByteArray)) elS rfl _ _ rfl (by rfl) (own_allocS HO.out _) (by rfl) rfl (rd_oneS _ _) oneS K1.out.1 K1.out.2 (below_allocS HB.out _).size ?_; intro v1 w2 ownv1 grv1 atv1; have belv1 := Lib.hid (below_grownS (below_allocS HB.out _) (own_allocS HO.out _) grv1); obtain ⟨A2, cap2, rfl, hc2, hcm2, _, hrd2⟩ := ownv1.form; have HR2 := Lib.hid hrd2; clear ownv1 hrd2 atv1 grv1; generalize xs ++ [n] = zs at *)
    refine Calls.mono (pathOf_any w2 A2 cap2 _ HR2.out hc2 hcm2 HZ.out) ?_
    rintro e w3 ⟨rfl, hB3⟩
    have HB3 := Lib.hid (below_below belv1.out hB3)
    clear hB3
    go_wp2_with fail
    go_ret2
    refine (?_ : Of2 w (joinB s n) (joinT s n) _ _)
    rw [E.out.1, E.out.2]
    exact ⟨rfl, HB3.out⟩

/-- slices.Equal, of the head of a list against another list as long. -/
theorem equalS_any (w : World) (A B : Option Addr) (c d : Nat) (xs ys : List ByteArray) (h : RdT encS 1 w A xs) (g : RdT encS 1 w B ys) (hle : ys.length ≤ xs.length) (hb : ys.length ≤ 9223372036854775807) :
    Calls Tryd.prog 66 #[.slice A ys.length c, .slice B ys.length d] w fun e w' => e = .returned (.bool (decide (xs.take ys.length = ys))) ∧ Below w.heap.size w w' := by
  rcases Nat.eq_zero_or_pos ys.length with h0 | h0
  · rw [h0]
    refine (Tryd.slices_Equal_string_empty A B c 0 d w (by omega)).mono ?_
    rintro e w' ⟨rfl, rfl⟩
    have : ys = [] := List.length_eq_zero_iff.1 h0
    subst this
    exact ⟨rfl, Below.refl _ _⟩
  · obtain ⟨b1, o1, rfl, hb1, h1⟩ := h (by omega)
    obtain ⟨b2, o2, rfl, hb2, h2⟩ := g h0
    have e1 : ∀ j, j < xs.length → w.cell? ⟨b1, o1 + j, none⟩ = some (.string (xs.getD j ByteArray.empty)) := fun j hj => by
      have := h1 j xs[j] (List.getElem?_eq_getElem hj) 0 (by omega)
      simpa [encS, List.getD, List.getElem?_eq_getElem hj] using this
    have e2 : ∀ j, j < ys.length → w.cell? ⟨b2, o2 + j, none⟩ = some (.string (ys.getD j ByteArray.empty)) := fun j hj => by
      have := h2 j ys[j] (List.getElem?_eq_getElem hj) 0 (by omega)
      simpa [encS, List.getD, List.getElem?_eq_getElem hj] using this
    refine (Tryd.slices_Equal_string b1 o1 ys.length c b2 o2 ys.length d xs ys w hle (Nat.le_refl _) hb hb e1 e2).mono ?_
    rintro e w' ⟨rfl, q, rfl⟩
    exact ⟨by rw [List.take_length], below_drewN (Below.refl _ _) _⟩

theorem under_yes {s t : ByteArray} (hs : pathB s = true) (ht : pathB t = true) (h : (namesT t).length ≤ (namesT s).length) : decide ((namesT s).take (namesT t).length = namesT t) = underB s t := by
  simp [underB, hs, ht, h]

set_option maxHeartbeats 2000000 in
theorem pathUnder_any (w : World) (s t : ByteArray) (hM : MaxAt w) (hs : s.size ≤ 1048576) (ht : t.size ≤ 1048576) :
    Calls Tryd.prog 33 #[.string s, .string t] w fun e w' => e = .returned (.bool (underB s t)) ∧ Below w.heap.size w w' := by
  have HP := Lib.hid (pathNames_any w s hM hs)
  have HQ := Lib.hid (fun w hM => pathNames_any w t hM ht)
  have HM := Lib.hid hM
  clear hM
  cases hp : pathB s <;> cases hq : pathB t
  case true.true =>
    have l1 := (all_nameB (namesT_ok hp)).1
    have l2 := (all_nameB (namesT_ok hq)).1
    by_cases hle : (namesT t).length ≤ (namesT s).length
    · have E := Lib.hid (under_yes hp hq hle)
      rw [hp] at HP
      rw [hq] at HQ
      clear hp hq
      generalize namesT s = xs at *
      generalize namesT t = ys at *
      go_enter Tryd.func33, Tryd.ntmps33
      go_wp2_with fail
      refine Calls.mono HP.out ?_
      rintro e w1 ⟨v, rfl, hO, hB⟩
      obtain ⟨A, cap, rfl, hc, hcm, _, hrd⟩ := hO.form
      have HR := Lib.hid hrd
      have HB := Lib.hid hB
      have HM1 := Lib.hid (HM.out.below hB)
      clear hB hrd
      go_wp2_with fail
      refine Calls.mono (HQ.out w1 HM1.out) ?_
      rintro e w2 ⟨v, rfl, hO2, hB⟩
      obtain ⟨A2, cap2, rfl, hc2, hcm2, _, hrd2⟩ := hO2.form
      have HR2 := Lib.hid hrd2
      have HR1 := Lib.hid (HR.out.below hB)
      have HB2 := Lib.hid (below_below HB.out hB)
      clear hB hrd2 hO hO2 HR HQ HP
      have HE := Lib.hid (equalS_any w2 A A2 cap cap2 xs ys HR1.out HR2.out hle (by omega))
      rw [E.out] at HE
      go_wp2_with fail
      refine Calls.mono HE.out ?_
      rintro e w3 ⟨rfl, hB⟩
      have HB3 := Lib.hid (below_below HB2.out hB)
      clear hB
      go_wp2_with fail
      go_ret
      exact ⟨rfl, HB3.out⟩
    · have E := Lib.hid (under_no (s := s) (t := t) (.inr (.inr hle)))
      rw [hp] at HP
      rw [hq] at HQ
      clear hp hq
      generalize namesT s = xs at *
      generalize namesT t = ys at *
      have q1 : ¬ (ys.length : Int) ≤ (xs.length : Int) := by omega
      go_enter Tryd.func33, Tryd.ntmps33
      go_wp2_with fail
      refine Calls.mono HP.out ?_
      rintro e w1 ⟨v, rfl, hO, hB⟩
      obtain ⟨A, cap, rfl, hc, hcm, _, hrd⟩ := hO.form
      have HB := Lib.hid hB
      have HM1 := Lib.hid (HM.out.below hB)
      clear hB hrd
      go_wp2_with fail
      refine Calls.mono (HQ.out w1 HM1.out) ?_
      rintro e w2 ⟨v, rfl, hO2, hB⟩
      obtain ⟨A2, cap2, rfl, hc2, hcm2, _, hrd2⟩ := hO2.form
      have HB2 := Lib.hid (below_below HB.out hB)
      clear hB hrd2 hO hO2 HQ HP
      go_wp2_with fail
      go_ret
      exact ⟨ret_bool E.out.symm, HB2.out⟩
  all_goals
    have E := Lib.hid (show underB s t = false from under_no (by first | exact .inl hp | exact .inr (.inl hq)))
    rw [hp] at HP
    rw [hq] at HQ
    go_enter Tryd.func33, Tryd.ntmps33
    go_wp2_with fail
    refine Calls.mono HP.out ?_
    rintro e w1 ⟨v, rfl, hO, hB⟩
    obtain ⟨A, cap, rfl, hc, hcm, _, hrd⟩ := hO.form
    have HB := Lib.hid hB
    have HM1 := Lib.hid (HM.out.below hB)
    clear hB hrd
    go_wp2_with fail
    refine Calls.mono (HQ.out w1 HM1.out) ?_
    rintro e w2 ⟨v, rfl, hO2, hB⟩
    obtain ⟨A2, cap2, rfl, hc2, hcm2, _, hrd2⟩ := hO2.form
    have HB2 := Lib.hid (below_below HB.out hB)
    clear hB hrd2 hO hO2 HQ HP
    go_wp2_with fail
    go_ret
    exact ⟨ret_bool E.out.symm, HB2.out⟩

end Go.Proofs.YtanccfiiemlmeaaDoor
