/- Paths, the program's functions, from the names on. -/
import Derived.Test.YtjalboplilolkaaDoorPathImpl
import Derived.Test.YtjalboplilolkaaDoorPathSpec3
namespace Go.Proofs.YtjalboplilolkaaDoor
open Go.RowKit
set_option linter.unusedVariables false
set_option linter.unusedSimpArgs false

/-- The library's own number, whatever it is. -/
def MaxAt (w : World) : Prop := ∃ m : Int, w.cell? ⟨0, 0, none⟩ = some (.int .i64 m)
theorem MaxAt.below {w w' : World} (h : MaxAt w) (hb : Below w.heap.size w w') : MaxAt w' := by
  obtain ⟨m, hm⟩ := h
  refine ⟨m, ?_⟩
  rw [hb.cell (p := ⟨0, 0, none⟩) (World.block_lt_of_cell? w _ hm)]
  exact hm

theorem own_split {base : Nat} {w : World} (xs : List ByteArray) (hb : base ≤ w.heap.size) (hn : xs.length ≤ maxLen) : Own encS 1 9 base (w.alloc (.cells (xs.map Value.string).toArray 9)) (.slice (some ⟨w.heap.size, 0, none⟩) xs.length xs.length) xs := by
  have e : cellsOf encS 1 xs = xs.map Value.string := by
    induction xs with
    | nil => rfl
    | cons x r ih =>
      have := ih (by simp at hn; omega)
      simp [cellsOf, this, encS]
  refine ⟨by rw [cellsOf_length], .inr ⟨w.heap.size, xs.length, (xs.map Value.string).toArray, rfl, hb, heap_alloc_new w _, Nat.le_refl _, hn, by simp, ?_⟩⟩
  rw [e, Nat.mul_one]
  simp only [List.toList_toArray]
  exact List.take_of_length_le (by simp)

theorem cut_no {s : ByteArray} (h : s.data.toList.head? ≠ some 47) : Lib.hasPrefix s.data.toList [47] = false := by
  unfold Lib.hasPrefix
  cases hs : s.data.toList with
  | nil => rfl
  | cons b r =>
    rw [hs] at h
    have hb : ¬ b = 47 := by simpa using h
    have : ¬ (47 : UInt8) = b := fun e => hb e.symm
    simp [List.isPrefixOf, this]
theorem cut_yes {s : ByteArray} (h : s.data.toList.head? = some 47) : Lib.hasPrefix s.data.toList [47] = true ∧ ∃ r, s.data.toList = 47 :: r ∧ Lib.trimPrefix s.data.toList [47] = r := by
  cases hs : s.data.toList with
  | nil => rw [hs] at h; cases h
  | cons b r =>
    rw [hs] at h
    simp at h
    subst h
    have e : Lib.hasPrefix (47 :: r) [47] = true := by simp [Lib.hasPrefix, List.isPrefixOf]
    exact ⟨e, r, rfl, by rw [Lib.trimPrefix, if_pos e]; rfl⟩

set_option maxHeartbeats 2000000 in
theorem pathNames_any (w : World) (s : ByteArray) (hM : MaxAt w) (hs : s.size ≤ 1048576) :
    Calls Tryd.prog 103 #[.string s] w (NamesPost w (namesT s) (pathB s)) := by
  by_cases h : s = ⟨#[47]⟩
  · subst h
    rw [root_names, root_path]
    go_enter Tryd.func103, Tryd.ntmps103
    go_wp2_with fail
    go_ret2
    exact ⟨_, rfl, Own.nil, Below.refl _ _⟩
  · have e1 := ne_root h
    have HC := Lib.hid (Tryd.strings_CutPrefix s ⟨#[47]⟩ w)
    have hp47 : (⟨#[47]⟩ : ByteArray).data.toList = [47] := rfl
    rw [hp47] at HC
    by_cases h0 : s.data.toList.head? = some 47
    · obtain ⟨p1, r, hr, p2⟩ := cut_yes h0
      rw [p1, p2] at HC
      have hrl : r.length + 1 = s.size := by rw [← size_data, hr]; rfl
      by_cases hl : s.size ≤ 20
      · obtain ⟨r', hr', hd⟩ := head_cut h0
        obtain rfl : r' = r := by rw [hr] at hr'; exact (List.tail_eq_of_cons_eq hr').symm
        have hnm : namesOf s = cutB 47 (ofL r') := by rw [namesOf, if_neg h, hd]
        obtain ⟨m, hm⟩ := hM
        have hsz : (ofL r').size = r'.length := ofL_size _
        have HS := Lib.hid (Tryd.strings_Split (ofL r') ⟨#[47]⟩ m w (by rw [hsz]; omega) hm (by decide))
        have hcnt : Lib.countB (ofL r') ⟨#[47]⟩ + 1 = (namesOf s).length := by
          rw [hnm, ← splitB_cut, Lib.splitB_all _ (by decide) 0 _ _ rfl]
        rw [splitB_cut, ← hnm, hcnt] at HS
        have hlen : (namesOf s).length ≤ s.size + 1 := namesOf_len
        have HZ := Lib.hid (show ∀ x ∈ namesOf s, x.size ≤ 9223372036854775807 from fun x hx => by have := namesOf_each x hx; omega)
        have HO := Lib.hid (own_split (base := w.heap.size) (w := w) (namesOf s) (Nat.le_refl _) (by unfold maxLen; omega))
        have HB := Lib.hid (show Below w.heap.size w (w.alloc (.cells ((namesOf s).map Value.string).toArray 9)) from (Below.refl _ _).alloc (Nat.le_refl _) _)
        have HP := Lib.hid (pathT_names h0)
        have HE := Lib.hid (pathB_names h h0)
        have HT := Lib.hid (fun (hp : pathB s = true) => namesT_of hp)
        have HF := Lib.hid (fun (hp : pathB s = false) => namesT_no hp)
        obtain ⟨W1, hW1⟩ : ∃ W1, W1 = w.alloc (.cells ((namesOf s).map Value.string).toArray 9) := ⟨_, rfl⟩
        rw [← hW1] at HO HB HS
        obtain ⟨A, cap, hv, hc, hcm, _, hrd⟩ := HO.out.form
        cases hv
        have HQ := Lib.hid (pathOf_any W1 _ _ _ hrd hc hcm HZ.out)
        have q1 : ¬ (s.size : Int) > 20 := by omega
        clear hnm hcnt hW1 hm hd hr hr' p1 p2 hlen hsz hrl hc hrd
        change Hid (Calls Tryd.prog 117 #[.string s, .string ⟨#[47]⟩] w fun e w' => e = .returned (.tuple #[.string (ofL r'), .bool true]) ∧ w' = w) at HC
        cases hok : pathOfB (namesOf s)
        · have hpb : pathB s = false := by rw [HE.out, hok]
          have hT := HF.out hpb
          rw [hpb, hT]
          rw [hok] at HQ
          clear hok HT HF HE HP hT hpb
          generalize namesOf s = xs at *
          generalize ofL r' = R at *
          go_enter Tryd.func103, Tryd.ntmps103
          go_wp2_with fail
          refine Calls.mono HC.out ?_
          rintro e w' ⟨rfl, rfl⟩
          go_wp2_with fail
          refine Calls.mono HS.out ?_
          rintro e w' ⟨rfl, rfl⟩
          go_wp2_with fail
          refine Calls.mono HQ.out ?_
          rintro e w2 ⟨rfl, hB⟩
          have HB2 := Lib.hid (HB.out.trans (hB.mono HB.out.size))
          clear hB
          go_wp2_with fail
          go_ret2
          exact ⟨_, rfl, Own.nil, HB2.out⟩
        · have hpb : pathB s = true := by rw [HE.out, hok]
          have hT := HT.out hpb
          have hO : pathOfT (namesOf s) = s := by rw [pathOfT, if_pos hok]; exact HP.out
          rw [hpb, hT]
          rw [hok, hO] at HQ
          have q2 : (s.toList != s.toList) = false := by simp
          clear hok HT HF HE HP hT hpb hO
          generalize namesOf s = xs at *
          generalize ofL r' = R at *
          go_enter Tryd.func103, Tryd.ntmps103
          go_wp2_with fail
          refine Calls.mono HC.out ?_
          rintro e w' ⟨rfl, rfl⟩
          go_wp2_with fail
          refine Calls.mono HS.out ?_
          rintro e w' ⟨rfl, rfl⟩
          go_wp2_with fail
          refine Calls.mono HQ.out ?_
          rintro e w2 ⟨rfl, hB⟩
          have HB2 := Lib.hid (HB.out.trans (hB.mono HB.out.size))
          have HO2 := Lib.hid (HO.out.below hB)
          clear hB
          go_wp2_with fail
          go_ret2
          exact ⟨_, rfl, HO2.out, HB2.out⟩
      · have hpb : pathB s = false := by
          cases hpb : pathB s
          · rfl
          · exact absurd (pathB_size hpb) hl
        rw [hpb, namesT_no hpb]
        change Hid (Calls Tryd.prog 117 #[.string s, .string ⟨#[47]⟩] w fun e w' => e = .returned (.tuple #[.string (ofL r), .bool true]) ∧ w' = w) at HC
        generalize ofL r = R at *
        have q1 : (20 : Int) < (s.size : Int) := by omega
        clear hr p1 p2 hpb
        go_enter Tryd.func103, Tryd.ntmps103
        go_wp2_with fail
        refine Calls.mono HC.out ?_
        rintro e w' ⟨rfl, rfl⟩
        go_wp2_with fail
        go_ret2
        exact ⟨_, rfl, Own.nil, Below.refl _ _⟩
    · have hpb := pathB_head h h0
      rw [hpb, namesT_no hpb]
      rw [cut_no h0] at HC
      change Hid (Calls Tryd.prog 117 #[.string s, .string ⟨#[47]⟩] w fun e w' => e = .returned (.tuple #[.string (ofL (Lib.trimPrefix s.data.toList [47])), .bool false]) ∧ w' = w) at HC
      generalize ofL (Lib.trimPrefix s.data.toList [47]) = R at *
      clear hpb h0
      go_enter Tryd.func103, Tryd.ntmps103
      go_wp2_with fail
      refine Calls.mono HC.out ?_
      rintro e w' ⟨rfl, rfl⟩
      go_wp2_with fail
      go_ret2
      exact ⟨_, rfl, Own.nil, Below.refl _ _⟩

end Go.Proofs.YtjalboplilolkaaDoor
