/- Paths, the reference's functions. -/
import Derived.Test.YthedmiippfpbnaaGreatDoorPathOf
namespace Go.Proofs.YthedmiippfpbnaaGreatDoor
open Go.RowKit
set_option linter.unusedVariables false
set_option linter.unusedSimpArgs false

theorem Own.grown {base : Nat} {w w' : World} {v : Value} {l : List ByteArray} (h : Own encS 1 9 base w v l) (hb : Below w.heap.size w w') : Own encS 1 9 base w' v l := h.below hb

theorem rd_oneS (w : World) (n : ByteArray) : RdT encS 1 (w.alloc (.cells #[.string n] 9)) (some ⟨w.heap.size, 0, none⟩) [n] := fun _ => ⟨w.heap.size, 0, rfl, by simp, fun i x hx j hj => by
  have : i = 0 := by
    rcases i with _ | i
    · rfl
    · simp at hx
  subst this
  simp at hx
  subst hx
  obtain rfl : j = 0 := by omega
  unfold World.cell?
  simp only [heap_alloc_new]
  simp [encS]⟩

theorem own_allocS {base : Nat} {w : World} {v : Value} {l : List ByteArray} (h : Own encS 1 9 base w v l) (o : Obj) : Own encS 1 9 base (w.alloc o) v l := h.below ((Below.refl _ _).alloc (Nat.le_refl _) o)
theorem below_allocS {Wa W : World} (h : Below Wa.heap.size Wa W) (o : Obj) : Below Wa.heap.size Wa (W.alloc o) := h.alloc h.size o
theorem below_grownS {Wa W W' : World} {v : Value} {l : List ByteArray} (h : Below Wa.heap.size Wa W) (hown : Own encS 1 9 Wa.heap.size W v l) (hg : W.grownBy W' v.ownBlock) : Below Wa.heap.size Wa W' := below_grown h hown hg

/-- How far the reference's cut has come: what is cut off, and what is left to cut. -/
def CutRel (W0 : World) (c : UInt8) (s : ByteArray) (k f : Nat) (v : Value) (wr : World) : Prop :=
  ∃ l, Own encS 1 9 W0.heap.size wr v l ∧ f ≤ k ∧ l.map (·.data.toList) ++ cutA c (s.extract f k).data.toList (s.data.toList.drop k) = cutL c s.data.toList ∧ l.length ≤ k ∧ Below W0.heap.size W0 wr

theorem cut_start (c : UInt8) (s : ByteArray) : ([] : List ByteArray).map (·.data.toList) ++ cutA c (s.extract 0 0).data.toList (s.data.toList.drop 0) = cutL c s.data.toList := by
  have : (s.extract 0 0).data.toList = [] := by rw [Lib.extract_from_zero]; rfl
  simp [this, cutL]
theorem drop_byte (s : ByteArray) (k : Nat) (h : k < s.size) : s.data.toList.drop k = s[k] :: s.data.toList.drop (k + 1) := by
  have h' : k < s.data.toList.length := by rw [size_data]; exact h
  rw [List.drop_eq_getElem_cons h']
  rfl
theorem extract_snoc (s : ByteArray) (f k : Nat) (hf : f ≤ k) (h : k < s.size) : (s.extract f (k + 1)).data.toList = (s.extract f k).data.toList ++ [s[k]] := by
  have h' : k < s.data.toList.length := by rw [size_data]; exact h
  have e : ∀ n, (s.extract f n).data.toList = (s.data.toList.take n).drop f := fun n => by
    rw [Lib.extract_data]
    simp [List.drop_take]
  rw [e, e, List.take_add_one, List.getElem?_eq_getElem h', List.drop_append_of_le_length (by rw [List.length_take]; omega)]
  rfl
theorem cut_hit {c : UInt8} {s : ByteArray} {k f : Nat} {l : List ByteArray} (h : k < s.size) (e : s[k] = c) (hf : f ≤ k) (hr : l.map (·.data.toList) ++ cutA c (s.extract f k).data.toList (s.data.toList.drop k) = cutL c s.data.toList) :
    (l ++ [s.extract f k]).map (·.data.toList) ++ cutA c (s.extract (k + 1) (k + 1)).data.toList (s.data.toList.drop (k + 1)) = cutL c s.data.toList := by
  have e0 : (s.extract (k + 1) (k + 1)).data.toList = [] := by
    rw [Lib.extract_data]
    simp
  rw [← hr, e0, drop_byte s k h, cutA, if_pos e]
  simp
theorem cut_miss {c : UInt8} {s : ByteArray} {k f : Nat} {l : List ByteArray} (h : k < s.size) (e : ¬ s[k] = c) (hf : f ≤ k) (hr : l.map (·.data.toList) ++ cutA c (s.extract f k).data.toList (s.data.toList.drop k) = cutL c s.data.toList) :
    l.map (·.data.toList) ++ cutA c (s.extract f (k + 1)).data.toList (s.data.toList.drop (k + 1)) = cutL c s.data.toList := by
  rw [← hr, drop_byte s k h, cutA, if_neg e, extract_snoc s f k hf h]
theorem cut_end {c : UInt8} {s : ByteArray} {f : Nat} {l : List ByteArray} (hr : l.map (·.data.toList) ++ cutA c (s.extract f s.size).data.toList (s.data.toList.drop s.size) = cutL c s.data.toList) : l ++ [s.extract f s.size] = cutB c s := by
  have e0 : s.data.toList.drop s.size = [] := List.drop_of_length_le (by rw [size_data]; exact Nat.le_refl _)
  rw [e0, cutA] at hr
  rw [cutB, ← hr, ← map_ofL_data (l ++ [s.extract f s.size])]
  simp

set_option maxHeartbeats 4000000 in
theorem l2Cut_any (w : World) (s : ByteArray) (c : UInt8) (hs : s.size ≤ 1048576) :
    Calls Tryz.prog 19 #[.string s, .int .u8 (c.toNat : Int)] w (SPost w (cutB c s)) := by
  go_enter Tryz.func19, Tryz.ntmps19
  go_wp2_with fail
  go_loopw [5, 6, 7] (fun v f i wr => ∃ (k j : Nat), k ≤ s.size ∧ j ≤ k ∧ i = .int .i64 k ∧ f = .int .i64 j ∧ Hid (CutRel w c s k j v wr)) (fun v f i _ => s.size - (intOf i).toNat)
  case atStart => exact ⟨0, 0, Nat.zero_le _, Nat.zero_le _, rfl, rfl, Lib.hid ⟨[], Own.empty (Nat.le_refl _), Nat.le_refl _, cut_start c s, by simp, (Below.refl _ _).alloc (Nat.le_refl _) _⟩⟩
  case round =>
    obtain ⟨k, j, hk, hj, rfl, rfl, HC⟩ := hrel
    obtain ⟨l, ho, _, he, hl, hB⟩ := HC.out
    have HO := Lib.hid ho
    have HE := Lib.hid he
    have HB := Lib.hid hB
    clear ho he hB HC
    by_cases hlt : k < s.size
    · have hbk : ((s[k]).toNat : Int) = (c.toNat : Int) ↔ s[k] = c := by
        rw [Int.ofNat_inj]
        exact UInt8.toNat_inj
      have q1 : IntKind.i64.wrap ((k : Int) + 1) = (k : Int) + 1 := IntWalk.i64_in _ (by omega)
      by_cases hc : s[k] = c
      · have e1 : ((s[k]).toNat : Int) = (c.toNat : Int) := hbk.2 hc
        have K1 := Lib.hid (And.intro (show (l.length + 1) * 16 ≤ 140737488355328 by omega) (show l.length + 1 ≤ maxLen by unfold maxLen; omega))
        have HH := Lib.hid (cut_hit hlt hc hj HE.out)
        go_wp2_with (at_builtin; refine wpList_app (ys := ([s.extract j k] : List ByteArray)) elS rfl _ _ rfl (by rfl) (own_allocS HO.out _) (by rfl) rfl (rd_oneS _ _) oneS K1.out.1 K1.out.2 (below_allocS HB.out _).size ?_; intro v1 w1 ownv1 grv1 atv1; have belv1 := Lib.hid (below_grownS (below_allocS HB.out _) (own_allocS HO.out _) grv1))
        exact ⟨⟨k + 1, k + 1, by omega, by omega, by go_num, by go_num, Lib.hid ⟨_, ownv1, by omega, HH.out, by simp; omega, belv1.out⟩⟩, by simp [intOf]; omega⟩
      · have e1 : ¬ ((s[k]).toNat : Int) = (c.toNat : Int) := fun h => hc (hbk.1 h)
        have HH := Lib.hid (cut_miss hlt hc hj HE.out)
        go_wp2_with fail
        exact ⟨⟨k + 1, j, by omega, by omega, by go_num, rfl, Lib.hid ⟨l, HO.out, by omega, HH.out, by omega, HB.out⟩⟩, by simp [intOf]; omega⟩
    · obtain rfl : k = s.size := by omega
      have K1 := Lib.hid (And.intro (show (l.length + 1) * 16 ≤ 140737488355328 by omega) (show l.length + 1 ≤ maxLen by unfold maxLen; omega))
      have HH := Lib.hid (cut_end HE.out)
      go_wp2_with (at_builtin; refine wpList_app (ys := ([s.extract j s.size] : List ByteArray)) elS rfl _ _ rfl (by rfl) (own_allocS HO.out _) (by rfl) rfl (rd_oneS _ _) oneS K1.out.1 K1.out.2 (below_allocS HB.out _).size ?_; intro v1 w1 ownv1 grv1 atv1; have belv1 := Lib.hid (below_grownS (below_allocS HB.out _) (own_allocS HO.out _) grv1))
      rw [HH.out] at ownv1
      all_goals exact bodyPost_ret (v := v1) (by simp [results, Tryz.results19, go_sem]) rfl ⟨_, rfl, ownv1, belv1.out⟩

end Go.Proofs.YthedmiippfpbnaaGreatDoor
