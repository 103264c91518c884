/- What a pointer leads to in three disks: the plain words, and that the two texts' ways agree. -/
import Derived.Test.YtamljoffmkcbnaaLook
import Derived.Test.YtamljoffmkcbnaaStripe2
import Derived.Test.YtamljoffmkcbnaaSum
namespace Go.Proofs.Ytamljoffmkcbnaa
open Go.RowKit
set_option maxRecDepth 100000
set_option linter.unusedVariables false
set_option linter.unusedSimpArgs false

/-- What a disk gives of a row; nothing where it is gone. -/
def colI (a : Int) (d : Dk) : ByteArray := if d.gone then ⟨#[]⟩ else lookK d a
/-- Whether a way uses a column. -/
def usedB (lost : Int) (i : Nat) : Bool := ((i : Int) != lost) && (decide ((i : Int) < 2) || decide (0 ≤ lost))
/-- Whether one of the first k disks is gone that a way uses. -/
def goneU (lost : Int) (ds : List Dk) (k : Nat) : Bool := (List.range k).any fun i => usedB lost i && (ds[i]?.map (·.gone)).getD false
theorem goneU_zero (lost : Int) (ds : List Dk) : goneU lost ds 0 = false := rfl
theorem goneU_succ {lost : Int} {ds : List Dk} {k : Nat} {d : Dk} (h : ds[k]? = some d) : goneU lost ds (k + 1) = (goneU lost ds k || (usedB lost k && d.gone)) := by
  simp [goneU, List.range_succ, List.any_append, h]
def fitO (p : Pt) (r : Option ByteArray) : Option ByteArray := r.bind fun t => if fitsB p t then some t else none
def joinL (cs : List ByteArray) (sz : Nat) (lost : Int) : Option ByteArray := joinK (cs.getD 0 ⟨#[]⟩) (cs.getD 1 ⟨#[]⟩) (cs.getD 2 ⟨#[]⟩) ((sz + 1) / 2) (sz - (sz + 1) / 2) lost
/-- What one way gives. -/
def wayK (ds : List Dk) (p : Pt) (lost : Int) : Option ByteArray := if goneU lost ds 3 then none else fitO p (joinL (ds.map (colI p.at_)) p.size.toNat lost)
def firstO (f : Int → Option ByteArray) : Option ByteArray := match f (-1) with | some t => some t | none => match f 0 with | some t => some t | none => f 1
def readK (ds : List Dk) (p : Pt) : Option ByteArray := firstO (wayK ds p)
def rrK (ds : List Dk) (p : Pt) : Option ByteArray := if raidB ds && (ptrB p && !holeB p) then readK ds p else none
theorem firstO_hit {f : Int → Option ByteArray} {l : Int} (h0 : -1 ≤ l) (h1 : l ≤ 1) (hn : ∀ k, -1 ≤ k → k < l → f k = none) {t : ByteArray} (ht : f l = some t) : firstO f = some t := by
  unfold firstO
  rcases (show l = -1 ∨ l = 0 ∨ l = 1 by omega) with rfl | rfl | rfl
  · rw [ht]
  · rw [hn (-1) (by omega) (by omega), ht]
  · rw [hn (-1) (by omega) (by omega), hn 0 (by omega) (by omega), ht]
theorem firstO_miss {f : Int → Option ByteArray} {l : Int} (h2 : l = 2) (hn : ∀ k, -1 ≤ k → k < l → f k = none) : firstO f = none := by
  subst h2
  unfold firstO
  rw [hn (-1) (by omega) (by omega), hn 0 (by omega) (by omega), hn 1 (by omega) (by omega)]
theorem firstO_congr {f g : Int → Option ByteArray} (h : ∀ l, -1 ≤ l → l ≤ 1 → f l = g l) : firstO f = firstO g := by
  unfold firstO
  rw [h (-1) (by omega) (by omega), h 0 (by omega) (by omega), h 1 (by omega) (by omega)]

theorem disk_ok {d : Dk} (h : diskB d = true) : d.cells.length = 64 ∧ (∀ s ∈ d.cells, cellB d.gone s = true) ∧ (d.gone = true → d.waits = []) ∧ ∀ x ∈ d.waits, waitB x = true := by
  unfold diskB at h
  simp only [Bool.and_eq_true, beq_iff_eq, decide_eq_true_eq, List.all_eq_true, Bool.not_eq_true', Bool.and_eq_false_iff, decide_eq_false_iff_not, Nat.not_lt] at h
  refine ⟨h.1, h.2.2.1, fun hg => ?_, h.2.2.2.2⟩
  rcases h.2.2.2.1 with h' | h'
  · rw [hg] at h'; cases h'
  · exact List.length_eq_zero_iff.1 (by omega)
theorem raid_ok {ds : List Dk} (h : raidB ds = true) : ds.length = 3 ∧ ∀ d ∈ ds, diskB d = true := by
  unfold raidB at h
  simpa using h
theorem cell_size {g : Bool} {s : ByteArray} (h : cellB g s = true) : s.size ≤ 200 := by
  unfold cellB at h
  simp at h
  exact h.1
theorem look_size {d : Dk} (h : diskB d = true) (a : Int) : (lookK d a).size ≤ 200 := by
  obtain ⟨h64, hc, hg, hw⟩ := disk_ok h
  unfold lookK lastW
  cases hf : d.waits.reverse.find? (fun x => x.at_ == a) with
  | none =>
    simp only [Option.map_none, Option.getD_none]
    rw [List.getD_eq_getElem?_getD]
    cases he : d.cells[a.toNat]? with
    | none => exact Nat.zero_le _
    | some s => exact cell_size (hc s (List.mem_of_getElem? he))
  | some x =>
    simp only [Option.map_some, Option.getD_some]
    have hm : x ∈ d.waits := List.mem_reverse.1 (List.mem_of_find?_eq_some hf)
    have := hw x hm
    unfold waitB at this
    simp at this
    exact this.2
theorem col_size {d : Dk} (h : diskB d = true) (a : Int) : (colI a d).size ≤ 200 := by
  unfold colI
  split
  · exact Nat.zero_le _
  · exact look_size h a

/-- What the reference takes for the columns: where a disk is gone, something too long. -/
def ColsS (a : Int) (ds : List Dk) (cs : List ByteArray) : Prop := cs.length = ds.length ∧ ∀ (i : Nat) d c, ds[i]? = some d → cs[i]? = some c → (d.gone = true → c.size = 200) ∧ (d.gone = false → c = lookK d a)
theorem cols_step {a : Int} {ds : List Dk} {cs : List ByteArray} {k : Nat} {d : Dk} {c : ByteArray} (h : ColsS a (ds.take k) cs) (hd : ds[k]? = some d) (hc : (d.gone = true → c.size = 200) ∧ (d.gone = false → c = lookK d a)) : ColsS a (ds.take (k + 1)) (cs ++ [c]) := by
  obtain ⟨h1, h2⟩ := h
  have hk : k < ds.length := by
    rcases Nat.lt_or_ge k ds.length with h' | h'
    · exact h'
    · rw [List.getElem?_eq_none h'] at hd; cases hd
  have hl : (ds.take k).length = k := by rw [List.length_take]; omega
  rw [List.take_add_one, hd]
  refine ⟨by simp [h1], fun i d' c' hi hj => ?_⟩
  by_cases hik : i < k
  · rw [List.getElem?_append_left (by omega)] at hi hj
    exact h2 i d' c' hi hj
  · rcases (show i = k ∨ k < i by omega) with rfl | hgt
    · rw [List.getElem?_append_right (by omega), hl, Nat.sub_self] at hi
      rw [List.getElem?_append_right (by omega), h1, hl, Nat.sub_self] at hj
      simp at hi hj
      subst hi
      subst hj
      exact hc
    · rw [List.getElem?_append_right (by omega), hl] at hi
      rw [List.getElem?_eq_none (by simp; omega)] at hi
      cases hi
theorem three {α : Type} {l : List α} (h : l.length = 3) : ∃ a b c, l = [a, b, c] := by
  match l, h with
  | [a, b, c], _ => exact ⟨a, b, c, rfl⟩

theorem way_agree {ds : List Dk} {p : Pt} {cs : List ByteArray} (hr : raidB ds = true) (hs : inB p.size 1 128 = true) (hc : ColsS p.at_ ds cs) (lost : Int) (h0 : -1 ≤ lost) (h1 : lost ≤ 1) : fitO p (joinL cs p.size.toNat lost) = wayK ds p lost := by
  obtain ⟨h3, hok⟩ := raid_ok hr
  obtain ⟨hl, hcs⟩ := hc
  obtain ⟨d0, d1, d2, rfl⟩ := three h3
  obtain ⟨c0, c1, c2, rfl⟩ := three (hl.trans h3)
  have e0 := hcs 0 d0 c0 rfl rfl
  have e1 := hcs 1 d1 c1 rfl rfl
  have e2 := hcs 2 d2 c2 rfl rfl
  obtain ⟨s1, s2⟩ := inB_true hs
  obtain ⟨sz, hsz⟩ : ∃ sz : Nat, p.size.toNat = sz := ⟨_, rfl⟩
  have hz1 : 1 ≤ sz := by omega
  have hz2 : sz ≤ 128 := by omega
  unfold wayK joinL
  rw [hsz]
  have hh : ∃ h m, (sz + 1) / 2 = h ∧ sz - h = m ∧ h ≤ 64 ∧ m ≤ 64 := ⟨_, _, rfl, rfl, by omega, by omega⟩
  obtain ⟨h, m, eh, em, bh, bm⟩ := hh
  rw [eh, em]
  have nh : ¬ 200 = h := by omega
  have nm : ¬ 200 = m := by omega
  simp only [List.map, List.getD_cons_zero, List.getD_cons_succ]
  rcases (show lost = -1 ∨ lost = 0 ∨ lost = 1 by omega) with rfl | rfl | rfl
  · cases g0 : d0.gone
    · cases g1 : d1.gone
      · have f0 := e0.2 g0
        have f1 := e1.2 g1
        subst f0
        subst f1
        simp [goneU, usedB, List.range_succ, g0, g1, joinK, colI]
      · have f1 := e1.1 g1
        simp [goneU, usedB, List.range_succ, g0, g1, joinK, f1, nm, fitO]
    · have f0 := e0.1 g0
      simp [goneU, usedB, List.range_succ, g0, joinK, f0, nh, fitO]
  · cases g1 : d1.gone
    · cases g2 : d2.gone
      · have f1 := e1.2 g1
        have f2 := e2.2 g2
        subst f1
        subst f2
        simp [goneU, usedB, List.range_succ, g1, g2, joinK, colI]
      · have f2 := e2.1 g2
        simp [goneU, usedB, List.range_succ, g1, g2, joinK, f2, nh, fitO]
    · have f1 := e1.1 g1
      simp [goneU, usedB, List.range_succ, g1, joinK, f1, nm, fitO]
  · cases g0 : d0.gone
    · cases g2 : d2.gone
      · have f0 := e0.2 g0
        have f2 := e2.2 g2
        subst f0
        subst f2
        simp [goneU, usedB, List.range_succ, g0, g2, joinK, colI]
      · have f2 := e2.1 g2
        simp [goneU, usedB, List.range_succ, g0, g2, joinK, f2, nh, fitO]
    · have f0 := e0.1 g0
      simp [goneU, usedB, List.range_succ, g0, joinK, f0, nh, fitO]

theorem fill_same {α : Type} (l : List α) (k : Nat) (z : α) (h : l[k]? = some z) : l.take k ++ List.replicate (l.length - k) z = l.take (k + 1) ++ List.replicate (l.length - (k + 1)) z := by
  have hk : k < l.length := by
    rcases Nat.lt_or_ge k l.length with h' | h'
    · exact h'
    · rw [List.getElem?_eq_none h'] at h; cases h
  rw [List.take_add_one, h, show l.length - k = (l.length - (k + 1)) + 1 by omega, List.replicate_succ]
  simp

end Go.Proofs.Ytamljoffmkcbnaa
