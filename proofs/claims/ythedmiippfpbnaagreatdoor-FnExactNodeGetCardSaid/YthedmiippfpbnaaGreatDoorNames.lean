/- Names: the program's NameOk and the reference's return one Bool for every text. -/
import Derived.Test.YthedmiippfpbnaaGreatDoorQuiet
import Derived.Laws.RangeString
import Derived.Shelf.GgClosure.StringsRunes
namespace Go.Proofs.YthedmiippfpbnaaGreatDoor
open Go.RowKit
set_option linter.unusedVariables false

/-- The first k bytes are small letters. -/
def lowTo (s : ByteArray) (k : Nat) : Prop := ∀ i (h : i < s.size), i < k → 97 ≤ (s[i]).toNat ∧ (s[i]).toNat ≤ 122
instance (s : ByteArray) (k : Nat) : Decidable (lowTo s k) := inferInstanceAs (Decidable (∀ i (h : i < s.size), i < k → 97 ≤ (s[i]).toNat ∧ (s[i]).toNat ≤ 122))
/-- A name. -/
def nameB (s : ByteArray) : Bool := inB s.size 1 4 && decide (lowTo s s.size)
theorem lowTo_zero (s : ByteArray) : lowTo s 0 := fun _ _ h => absurd h (by omega)
theorem lowTo_succ {s : ByteArray} {k : Nat} (h : lowTo s k) (hk : k < s.size) (h1 : 97 ≤ (s[k]).toNat) (h2 : (s[k]).toNat ≤ 122) : lowTo s (k + 1) := fun i hi hik => by
  by_cases e : i = k
  · subst e; exact ⟨h1, h2⟩
  · exact h i hi (by omega)
theorem nameB_no {s : ByteArray} {k : Nat} (hk : k < s.size) (h : (s[k]).toNat < 97 ∨ 122 < (s[k]).toNat) : nameB s = false := by
  unfold nameB
  have : ¬ lowTo s s.size := fun hl => by have := hl k hk hk; omega
  simp [this]
theorem nameB_end {s : ByteArray} (h : lowTo s s.size) : nameB s = inB s.size 1 4 := by simp [nameB, h]
theorem nameB_out {s : ByteArray} (h : inB s.size 1 4 = false) : nameB s = false := by simp [nameB, h]
theorem nameB_in {s : ByteArray} (h : inB s.size 1 4 = true) : nameB s = decide (lowTo s s.size) := by simp [nameB, h]
theorem nameB_size {s : ByteArray} (h : nameB s = true) : 1 ≤ s.size ∧ s.size ≤ 4 := by
  have : inB s.size 1 4 = true := by
    cases e : inB s.size 1 4
    · rw [nameB_out e] at h; cases h
    · rfl
  have := inB_true this
  omega

theorem decode_high (s : ByteArray) (pos : Nat) (h : pos < s.size) (hl : 128 ≤ (s[pos]'h).toNat) : 128 ≤ (Utf8.decode s pos).1 := by
  have e : s.get! (pos + 0) = s[pos]'h := by
    show s.get! pos = _
    simp [ByteArray.get!, getElem!_pos, h]
    rfl
  unfold Utf8.decode
  simp only [e]
  rw [if_neg (by omega)]
  split
  · split
    · assumption
    · decide
  · split
    · split
      · next h => simp at h; omega
      · decide
    · split
      · split
        · next h => simp at h; omega
        · decide
      · decide

/-- No letter. -/
def notLow (x : Nat) : Bool := decide ((x : Int) < 97) || decide (122 < (x : Int))

theorem idxFrom_low (s : ByteArray) : ∀ (f pos : Nat), s.size ≤ pos + f → lowTo s pos → (Lib.idxFuncFrom notLow true s f pos < 0 ↔ lowTo s s.size)
  | 0, pos, hf, hl => by
    have : lowTo s s.size := fun i hi _ => hl i hi (by omega)
    simp [Lib.idxFuncFrom, this]
  | f + 1, pos, hf, hl => by
    unfold Lib.idxFuncFrom
    by_cases hp : pos < s.size
    · rw [if_pos hp]
      by_cases hlow : 97 ≤ (s[pos]).toNat ∧ (s[pos]).toNat ≤ 122
      · rw [decode_ascii s pos hp (by omega)]
        have : notLow (s[pos]).toNat = false := by unfold notLow; simp; omega
        simp only [this, Bool.false_eq_true, if_false]
        exact idxFrom_low s f (pos + 1) (by omega) (lowTo_succ hl hp hlow.1 hlow.2)
      · have hn : notLow (Utf8.decode s pos).1 = true := by
          by_cases h128 : (s[pos]).toNat < 128
          · rw [decode_ascii s pos hp h128]
            unfold notLow
            simp
            omega
          · have := decode_high s pos hp (by omega)
            unfold notLow
            simp
            omega
        rw [if_pos hn]
        have : ¬ lowTo s s.size := fun hl => hlow (hl pos hp hp)
        simp [this]
    · rw [if_neg hp]
      have : lowTo s s.size := fun i hi _ => hl i hi (by omega)
      simp [this]
theorem idx_low (s : ByteArray) : decide (Lib.idxFunc notLow true s < 0) = decide (lowTo s s.size) := by
  have := idxFrom_low s s.size 0 (by omega) (lowTo_zero s)
  simp only [Lib.idxFunc]
  exact decide_eq_decide.2 this

end Go.Proofs.YthedmiippfpbnaaGreatDoor
