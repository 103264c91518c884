/- A piece without the zero bytes at its end: both texts. -/
import Derived.Test.YtnejbeblkjfcbaaDoorPieceFill
import Derived.Lib.TrimByte
import Derived.Lib.Split
namespace Go.Proofs.YtnejbeblkjfcbaaDoor
open Go.RowKit
set_option linter.unusedVariables false
set_option linter.unusedSimpArgs false

def ofZ (l : List UInt8) : ByteArray := ⟨l.toArray⟩
theorem ofZ_data (l : List UInt8) : (ofZ l).data.toList = l := by simp [ofZ]
theorem ofZ_ext {a b : ByteArray} (h : a.data.toList = b.data.toList) : a = b := by
  cases a; cases b
  congr 1
  exact Array.ext' h
theorem size_dataZ (s : ByteArray) : s.data.toList.length = s.size := Array.length_toList
theorem append_dataZ (a b : ByteArray) : (a ++ b).data.toList = a.data.toList ++ b.data.toList := by rw [ByteArray.data_append]; simp

/-- A piece without its last zeros. -/
def cutZ (s : ByteArray) : ByteArray := ofZ (Lib.trimRightB s.data.toList 0)
def cutB (s : ByteArray) : Bool := decide (s.size ≤ 12)
def cutS (s : ByteArray) : ByteArray := if cutB s = true then cutZ s else ⟨#[]⟩

theorem trim_zero (l : List UInt8) : Lib.trimRightB (l ++ [0]) 0 = Lib.trimRightB l 0 := by simp [Lib.trimRightB]
theorem trim_other (l : List UInt8) (b : UInt8) (h : b ≠ 0) : Lib.trimRightB (l ++ [b]) 0 = l ++ [b] := by simp [Lib.trimRightB, h]
theorem trim_nil : Lib.trimRightB [] 0 = ([] : List UInt8) := rfl
theorem trim_zeros (l : List UInt8) : ∀ k, Lib.trimRightB (l ++ List.replicate k 0) 0 = Lib.trimRightB l 0
  | 0 => by simp
  | k + 1 => by
    have e : List.replicate (k + 1) (0 : UInt8) = List.replicate k 0 ++ [0] := by rw [List.replicate_succ']
    rw [e, ← List.append_assoc, trim_zero, trim_zeros l k]
theorem last_split {l : List UInt8} {k : Nat} (h : l.length = k + 1) : l = l.take k ++ [l[k]'(by omega)] := by
  have : l.drop k = [l[k]'(by omega)] := by
    rw [List.drop_eq_getElem_cons (by omega)]
    rw [List.drop_of_length_le (by omega)]
  conv => lhs; rw [← List.take_append_drop k l, this]
/-- What is cut away are zeros. -/
theorem trim_back : ∀ (n : Nat) (l : List UInt8), l.length = n → ∃ k, l = Lib.trimRightB l 0 ++ List.replicate k 0 ∧ Lib.trimRightB (Lib.trimRightB l 0) 0 = Lib.trimRightB l 0
  | 0, l, h => by
    have : l = [] := List.length_eq_zero_iff.1 h
    subst this
    exact ⟨0, rfl, rfl⟩
  | n + 1, l, h => by
    have hs := last_split h
    by_cases hb : l[n]'(by omega) = 0
    · rw [hb] at hs
      obtain ⟨k, h1, h2⟩ := trim_back n (l.take n) (by rw [List.length_take]; omega)
      have e : Lib.trimRightB l 0 = Lib.trimRightB (l.take n) 0 := by
        conv => lhs; rw [hs]
        exact trim_zero _
      refine ⟨k + 1, ?_, by rw [e]; exact h2⟩
      rw [e]
      conv => lhs; rw [hs, h1]
      rw [List.append_assoc, ← List.replicate_succ']
    · have e : Lib.trimRightB l 0 = l := by
        conv => lhs; rw [hs]
        rw [trim_other _ _ hb, ← hs]
      exact ⟨0, by rw [e]; simp, by rw [e, e]⟩

theorem cutZ_back (s : ByteArray) : (cutZ s).size ≤ s.size ∧ s = cutZ s ++ zeros (s.size - (cutZ s).size) ∧ cutZ (cutZ s) = cutZ s := by
  obtain ⟨k, h1, h2⟩ := trim_back _ s.data.toList rfl
  have hl := congrArg List.length h1
  rw [List.length_append, List.length_replicate, size_dataZ] at hl
  have hz : (cutZ s).size = (Lib.trimRightB s.data.toList 0).length := by rw [← size_dataZ, cutZ, ofZ_data]
  refine ⟨by omega, ?_, ?_⟩
  · apply ofZ_ext
    rw [append_dataZ, cutZ, ofZ_data]
    have e : (zeros (s.size - (cutZ s).size)).data.toList = List.replicate k 0 := by
      have : s.size - (cutZ s).size = k := by omega
      rw [this]
      simp [zeros]
    have e' : (zeros (s.size - (ofZ (Lib.trimRightB s.data.toList 0)).size)).data.toList = List.replicate k 0 := e
    rw [e']
    exact h1
  · apply ofZ_ext
    rw [cutZ, cutZ, ofZ_data, ofZ_data, h2]
theorem cutZ_fill (s : ByteArray) (k : Nat) : cutZ (s ++ zeros k) = cutZ s := by
  apply ofZ_ext
  rw [cutZ, cutZ, ofZ_data, ofZ_data, append_dataZ]
  have : (zeros k).data.toList = List.replicate k 0 := by simp [zeros]
  rw [this, trim_zeros]

def lenS : Value → Nat
  | .string s => s.size
  | _ => 0

set_option maxHeartbeats 1000000 in
theorem l10Cut_any (w : World) (s : ByteArray) (hs : s.size ≤ 1048576) :
    Calls Tryd.prog 12 #[.string s] w fun e w' => e = .returned (.string (cutZ s)) ∧ w = w' := by
  go_enter Tryd.func12, Tryd.ntmps12
  go_wp2_with fail
  go_loopw [0] (fun v wr => ∃ t : ByteArray, v = .string t ∧ Hid (Lib.trimRightB t.data.toList 0 = Lib.trimRightB s.data.toList 0) ∧ t.size ≤ s.size ∧ w = wr) (fun v _ => lenS v)
  case atStart => exact ⟨s, rfl, Lib.hid rfl, Nat.le_refl _, rfl⟩
  case round =>
    obtain ⟨t, rfl, HT, ht, rfl⟩ := hrel
    rcases Nat.eq_zero_or_pos t.size with h0 | h0
    · have HE := Lib.hid (show t = cutZ s by
        apply ofZ_ext
        rw [cutZ, ofZ_data, ← HT.out]
        have : t.data.toList = [] := List.length_eq_zero_iff.1 (by rw [size_dataZ]; exact h0)
        rw [this]; rfl)
      have g0 : ¬ (0 : Int) < (t.size : Int) := by omega
      go_wp2_with fail
      go_ret
      exact ⟨ret_str HE.out, rfl⟩
    · obtain ⟨k, hk⟩ : ∃ k, t.size = k + 1 := ⟨t.size - 1, by omega⟩
      have hkl : k < t.size := by omega
      have hl : t.data.toList.length = k + 1 := by rw [size_dataZ]; exact hk
      have hsp := last_split hl
      have hg : t.data.toList[k]'(by omega) = t[k] := rfl
      rw [hg] at hsp
      have g0 : (0 : Int) < (t.size : Int) := by omega
      have w1 : IntKind.i64.wrap ((t.size : Int) - 1) = (k : Int) := by rw [IntWalk.i64_in _ (by omega)]; omega
      by_cases hb : t[k] = 0
      · have HT2 := Lib.hid (show Lib.trimRightB (t.extract 0 k).data.toList 0 = Lib.trimRightB s.data.toList 0 by
          have e : (t.extract 0 k).data.toList = t.data.toList.take k := by
            rw [Lib.extract_from_zero]
          rw [← HT.out, e]
          conv => rhs; rw [hsp, hb]
          rw [trim_zero])
        have hsz : (t.extract 0 k).size = k := by rw [ByteArray.size_extract]; omega
        have e1 : (((t[k]).toNat : Int) == 0) = true := by rw [hb]; rfl
        clear hsp hg
        go_wp2_with fail
        exact ⟨⟨_, rfl, HT2, by omega, trivial⟩, by simp only [lenS]; omega⟩
      · have HE := Lib.hid (show t = cutZ s by
          apply ofZ_ext
          rw [cutZ, ofZ_data, ← HT.out]
          conv => rhs; rw [hsp]
          rw [trim_other _ _ hb, ← hsp])
        have e1 : (((t[k]).toNat : Int) == 0) = false := by
          have : ¬ (t[k]).toNat = 0 := fun e => hb (UInt8.toNat_inj.1 e)
          simp
          omega
        clear hsp hg
        go_wp2_with fail
        go_ret
        exact ⟨ret_str HE.out, rfl⟩

theorem specCut_any (w : World) (s : ByteArray) (hs : s.size ≤ 1048576) :
    Calls Tryd.prog 6 #[.string s] w fun e w' => e = .returned (.tuple #[.string (cutS s), .bool (cutB s)]) ∧ Below w.heap.size w w' := by
  have HL := Lib.hid (l10Cut_any w s hs)
  by_cases h : s.size ≤ 12
  · have e1 : cutB s = true := by simp [cutB, h]
    have e2 : cutS s = cutZ s := by simp [cutS, e1]
    rw [e1, e2]
    generalize cutZ s = t at *
    clear e1 e2
    have g0 : ¬ (12 : Int) < (s.size : Int) := by omega
    go_enter Tryd.func6, Tryd.ntmps6
    go_wp2_with fail
    refine Calls.mono HL.out ?_
    rintro e w' ⟨rfl, rfl⟩
    go_wp2_with fail
    go_ret2
    exact ⟨rfl, Below.refl _ _⟩
  · have e1 : cutB s = false := by simp [cutB, h]
    have e2 : cutS s = ⟨#[]⟩ := by simp [cutS, e1]
    rw [e1, e2]
    clear e1 e2
    have g0 : (12 : Int) < (s.size : Int) := by omega
    go_enter Tryd.func6, Tryd.ntmps6
    go_wp2_with fail
    go_ret2
    exact ⟨rfl, Below.refl _ _⟩

theorem cut_any (w : World) (s : ByteArray) (hs : s.size ≤ 1048576) :
    Calls Tryd.prog 7 #[.string s] w fun e w' => e = .returned (.tuple #[.string (cutS s), .bool (cutB s)]) ∧ Below w.heap.size w w' := by
  have HL : Hid (Calls Tryd.prog 13 #[.string s, .string ⟨#[0]⟩] w fun e w' => e = .returned (.string (cutZ s)) ∧ w' = w) := Tryd.strings_TrimRight_one s 0 (by decide) w (by omega)
  by_cases h : s.size ≤ 12
  · have e1 : cutB s = true := by simp [cutB, h]
    have e2 : cutS s = cutZ s := by simp [cutS, e1]
    rw [e1, e2]
    generalize cutZ s = t at *
    clear e1 e2
    have g0 : ¬ (12 : Int) < (s.size : Int) := by omega
    go_enter Tryd.func7, Tryd.ntmps7
    go_wp2_with fail
    refine Calls.mono HL.out ?_
    rintro e w' ⟨rfl, rfl⟩
    go_wp2_with fail
    go_ret2
    exact ⟨rfl, Below.refl _ _⟩
  · have e1 : cutB s = false := by simp [cutB, h]
    have e2 : cutS s = ⟨#[]⟩ := by simp [cutS, e1]
    rw [e1, e2]
    clear e1 e2
    have g0 : (12 : Int) < (s.size : Int) := by omega
    go_enter Tryd.func7, Tryd.ntmps7
    go_wp2_with fail
    go_ret2
    exact ⟨rfl, Below.refl _ _⟩

/-- P82. -/
theorem cut_law {s : ByteArray} (h : cutB s = true) : cutS s = cutZ s ∧ (cutZ s).size ≤ s.size ∧ fitB (cutZ s) (s.size : Int) = true ∧ fillS (cutZ s) (s.size : Int) = s ∧ cutB (cutZ s) = true ∧ cutS (cutZ s) = cutZ s := by
  have hs : s.size ≤ 12 := by simpa [cutB] using h
  obtain ⟨h1, h2, h3⟩ := cutZ_back s
  have f : fitB (cutZ s) (s.size : Int) = true := by
    have : inB (s.size : Int) 0 12 = true := inB_mk (by omega) (by omega)
    simp [fitB, this]; omega
  have c : cutB (cutZ s) = true := by simp [cutB]; omega
  refine ⟨by simp [cutS, h], h1, f, ?_, c, ?_⟩
  · rw [fillS, if_pos f]
    have e : (s.size : Int).toNat = s.size := by omega
    rw [e]
    exact h2.symm
  · rw [cutS, if_pos c, h3]
/-- P83. -/
theorem fill_law {s : ByteArray} {n : Int} (h : fitB s n = true) : ((fillS s n).size : Int) = n ∧ (fillS s n).extract 0 s.size = s ∧ cutB (fillS s n) = true ∧ cutB s = true ∧ cutS (fillS s n) = cutZ s ∧ cutS s = cutZ s ∧ s.size ≤ (fillS s n).size ∧ (fillS s n).size ≤ 12 := by
  have h' := h
  simp only [fitB, Bool.and_eq_true, decide_eq_true_eq] at h'
  obtain ⟨h1, h2⟩ := h'
  obtain ⟨b1, b2⟩ := inB_true h1
  have e : fillS s n = s ++ zeros (n.toNat - s.size) := by rw [fillS, if_pos h]
  have hsz : (fillS s n).size = n.toNat := by rw [e, ByteArray.size_append, zeros_size]; omega
  have c1 : cutB (fillS s n) = true := by simp [cutB]; omega
  have c2 : cutB s = true := by simp [cutB]; omega
  refine ⟨by omega, ?_, c1, c2, by rw [cutS, if_pos c1, e, cutZ_fill], by rw [cutS, if_pos c2], by omega, by omega⟩
  apply ofZ_ext
  rw [Lib.extract_from_zero, e, append_dataZ, List.take_append_of_le_length (by rw [size_dataZ]; exact Nat.le_refl _), List.take_of_length_le (by rw [size_dataZ]; exact Nat.le_refl _)]

end Go.Proofs.YtnejbeblkjfcbaaDoor
