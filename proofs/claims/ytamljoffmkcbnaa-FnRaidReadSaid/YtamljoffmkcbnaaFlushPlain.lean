/- Disks flushed: the plain law: what is read is as it was. -/
import Derived.Test.YtamljoffmkcbnaaRaidRead
namespace Go.Proofs.Ytamljoffmkcbnaa
open Go.RowKit
set_option maxRecDepth 100000
set_option linter.unusedVariables false
set_option linter.unusedSimpArgs false

def putW (cs : List ByteArray) (x : Wt) : List ByteArray := cs.set x.at_.toNat x.text
def flushC (cs : List ByteArray) (ws : List Wt) : List ByteArray := ws.foldl putW cs
def flushK (d : Dk) : Dk := ⟨flushC d.cells d.waits, [], d.gone⟩
theorem flushC_len (cs : List ByteArray) : ∀ (ws : List Wt), (flushC cs ws).length = cs.length := by
  intro ws
  unfold flushC
  induction ws generalizing cs with
  | nil => rfl
  | cons x r ih => rw [List.foldl_cons, ih]; simp [putW]
theorem flushC_snoc (cs : List ByteArray) (ws : List Wt) (x : Wt) : flushC cs (ws ++ [x]) = (flushC cs ws).set x.at_.toNat x.text := by
  simp [flushC, List.foldl_append, putW]
theorem flushC_take {cs : List ByteArray} {ws : List Wt} {k : Nat} {x : Wt} (h : ws[k]? = some x) : flushC cs (ws.take (k + 1)) = (flushC cs (ws.take k)).set x.at_.toNat x.text := by
  rw [List.take_add_one, h]
  exact flushC_snoc _ _ _
theorem flushC_mem {cs : List ByteArray} {ws : List Wt} {s : ByteArray} (h : s ∈ flushC cs ws) : s ∈ cs ∨ ∃ x ∈ ws, x.text = s := by
  unfold flushC at h
  induction ws generalizing cs with
  | nil => exact .inl h
  | cons x r ih =>
    rw [List.foldl_cons] at h
    rcases ih h with h | ⟨y, hy, e⟩
    · unfold putW at h
      rcases List.mem_or_eq_of_mem_set h with h | h
      · exact .inl h
      · exact .inr ⟨x, by simp, h.symm⟩
    · exact .inr ⟨y, by simp [hy], e⟩
/-- What a cell has: the last that waits, or what it had. -/
theorem flushC_get {a : Int} (h0 : 0 ≤ a) : ∀ (l : List Wt) (cs : List ByteArray), cs.length = 64 → (∀ x ∈ l, 0 ≤ x.at_ ∧ x.at_ ≤ 63) → (flushC cs l.reverse).getD a.toNat ⟨#[]⟩ = ((l.find? fun x => x.at_ == a).map (·.text)).getD (cs.getD a.toNat ⟨#[]⟩)
  | [], cs, h64, hw => rfl
  | x :: r, cs, h64, hw => by
    have ih := flushC_get h0 r cs h64 (fun y hy => hw y (by simp [hy]))
    obtain ⟨g0, g1⟩ := hw x (by simp)
    rw [List.reverse_cons, flushC_snoc, List.find?_cons]
    by_cases he : x.at_ = a
    · have hb : (x.at_ == a) = true := by simpa using he
      rw [hb]
      simp only [Option.map_some, Option.getD_some]
      rw [List.getD_eq_getElem?_getD, he, List.getElem?_set_self (by rw [flushC_len, h64]; omega)]
      rfl
    · have hb : (x.at_ == a) = false := by simpa using he
      rw [hb]
      simp only
      rw [← ih, List.getD_eq_getElem?_getD, List.getElem?_set_ne (by omega), ← List.getD_eq_getElem?_getD]
theorem look_flush {d : Dk} {a : Int} (h : diskB d = true) (ha : inB a 0 63 = true) : lookK (flushK d) a = lookK d a := by
  obtain ⟨h64, _, _, hw⟩ := disk_ok h
  have := flushC_get (a := a) (inB_true ha).1 d.waits.reverse d.cells h64 (fun x hx => by
    have := hw x (List.mem_reverse.1 hx)
    unfold waitB at this
    simp only [Bool.and_eq_true] at this
    exact inB_true this.1)
  rw [List.reverse_reverse] at this
  unfold lookK lastW flushK
  dsimp only
  rw [List.reverse_nil]
  simp only [List.find?_nil, Option.map_none, Option.getD_none]
  exact this
theorem disk_flush {d : Dk} (h : diskB d = true) : diskB (flushK d) = true := by
  obtain ⟨h64, hc, hg, hw⟩ := disk_ok h
  have hc' : ∀ s ∈ flushC d.cells d.waits, cellB d.gone s = true := fun s hs => by
    rcases flushC_mem hs with hs | ⟨x, hx, rfl⟩
    · exact hc s hs
    · have h2 := hw x hx
      unfold waitB at h2
      cases hgg : d.gone
      · simp only [Bool.and_eq_true, decide_eq_true_eq] at h2
        simp [cellB, h2.2]
      · rw [hg hgg] at hx
        cases hx
  unfold diskB flushK
  dsimp only
  rw [List.all_eq_true.2 hc', flushC_len, h64]
  simp
theorem raid_flush {ds : List Dk} (h : raidB ds = true) : raidB (ds.map flushK) = true := by
  obtain ⟨h3, hd⟩ := raid_ok h
  unfold raidB
  rw [List.length_map, h3, List.all_eq_true.2 (fun x hx => by obtain ⟨d, hm, rfl⟩ := List.mem_map.1 hx; exact disk_flush (hd d hm))]
  rfl
theorem way_flush {ds : List Dk} {p : Pt} (h : raidB ds = true) (ha : inB p.at_ 0 63 = true) (l : Int) : wayK (ds.map flushK) p l = wayK ds p l := by
  obtain ⟨h3, hd⟩ := raid_ok h
  have hg : goneU l (ds.map flushK) 3 = goneU l ds 3 := by
    unfold goneU
    congr 1
    funext i
    rw [List.getElem?_map]
    cases ds[i]? <;> rfl
  have hm : (ds.map flushK).map (colI p.at_) = ds.map (colI p.at_) := by
    rw [List.map_map]
    apply List.map_congr_left
    intro d hdm
    show colI p.at_ (flushK d) = colI p.at_ d
    unfold colI
    rw [look_flush (hd d hdm) ha]
    rfl
  unfold wayK
  rw [hg, hm]
/-- What is read from disks is read from them flushed. -/
theorem read_flush {ds : List Dk} {p : Pt} (h : raidB ds = true) : rrK (ds.map flushK) p = rrK ds p := by
  unfold rrK
  rw [raid_flush h, h]
  split
  · next hp =>
    simp only [Bool.true_and, Bool.and_eq_true, Bool.not_eq_true'] at hp
    have ha := (ptr_ok hp.1 hp.2).1
    unfold readK
    exact firstO_congr (fun l _ _ => way_flush h ha l)
  · rfl
theorem fitO_fits {p : Pt} {r : Option ByteArray} {t : ByteArray} (h : fitO p r = some t) : fitsB p t = true := by
  unfold fitO at h
  cases r with
  | none => cases h
  | some s =>
    simp only [Option.bind_some] at h
    split at h
    · next hf => cases h; exact hf
    · cases h
theorem way_fits {ds : List Dk} {p : Pt} {l : Int} {t : ByteArray} (h : wayK ds p l = some t) : fitsB p t = true := by
  unfold wayK at h
  split at h
  · cases h
  · exact fitO_fits h
theorem way_size {ds : List Dk} {p : Pt} {l : Int} {t : ByteArray} (hs : inB p.size 1 128 = true) (h : wayK ds p l = some t) : t.size ≤ 1000 := by
  unfold wayK at h
  split at h
  · cases h
  · unfold fitO at h
    cases hj : joinL (ds.map (colI p.at_)) p.size.toNat l with
    | none => rw [hj] at h; cases h
    | some s =>
      rw [hj] at h
      simp only [Option.bind_some] at h
      split at h
      · cases h
        have := joinL_size (by have := (inB_true hs).2; omega) hj
        omega
      · cases h
/-- What is read fits. -/
theorem read_fits {ds : List Dk} {p : Pt} {t : ByteArray} (h : rrK ds p = some t) : raidB ds = true ∧ fitsB p t = true ∧ t.size ≤ 1000 := by
  unfold rrK at h
  split at h
  · next hp =>
    simp only [Bool.and_eq_true, Bool.not_eq_true'] at hp
    have hs := (ptr_ok hp.2.1 hp.2.2).2
    refine ⟨hp.1, ?_⟩
    unfold readK firstO at h
    split at h
    · next hw => cases h; exact ⟨way_fits hw, way_size hs hw⟩
    · split at h
      · next hw => cases h; exact ⟨way_fits hw, way_size hs hw⟩
      · exact ⟨way_fits h, way_size hs h⟩
  · cases h

end Go.Proofs.Ytamljoffmkcbnaa
