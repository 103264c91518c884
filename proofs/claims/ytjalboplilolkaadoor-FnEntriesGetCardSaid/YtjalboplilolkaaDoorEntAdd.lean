/- One entry more: the reference's l12Add and EntriesAdd. -/
import Derived.Test.YtjalboplilolkaaDoorEntLess2
import Derived.Test.YtjalboplilolkaaDoorQuiet
namespace Go.Proofs.YtjalboplilolkaaDoor
open Go.RowKit
set_option linter.unusedVariables false
set_option linter.unusedSimpArgs false

/-- d's name lies behind x's, as the comparison is written. -/
def gtB (d x : Ent) : Bool := !Op.bytesLess d.name.toList x.name.toList && !(d.name.toList == x.name.toList)
/-- The reference's loop: the entry goes in ahead of the first that lies behind it. -/
def addFrom (x : Ent) : List Ent → Bool → List Ent
  | [], true => []
  | [], false => [x]
  | d :: r, true => d :: addFrom x r true
  | d :: r, false => if gtB d x = true then x :: d :: addFrom x r true else d :: addFrom x r false

theorem addFrom_done (x : Ent) : ∀ l, addFrom x l true = l
  | [] => rfl
  | d :: r => by simp [addFrom, addFrom_done x r]
theorem addFrom_step {d : Ent} {l : List Ent} {i : Nat} (h : l[i]? = some d) : l.drop i = d :: l.drop (i + 1) := by
  have hi : i < l.length := by
    rcases Nat.lt_or_ge i l.length with h' | h'
    · exact h'
    · rw [List.getElem?_eq_none h'] at h; cases h
  rw [List.drop_eq_getElem_cons hi]
  congr 1
  rw [List.getElem?_eq_getElem hi] at h
  exact Option.some.inj h

theorem rd_one (w : World) (n : ByteArray) (z : Int) : RdT encE 2 (w.alloc (.cells #[.string n, .int .i64 z] 76)) (some ⟨w.heap.size, 0, none⟩) [⟨n, z⟩] := fun _ => ⟨w.heap.size, 0, rfl, by simp, fun i x hx j hj => by
  have : i = 0 := by
    rcases i with _ | i
    · rfl
    · simp at hx
  subst this
  simp at hx
  subst hx
  unfold World.cell?
  simp only [heap_alloc_new]
  rcases (show j = 0 ∨ j = 1 by omega) with rfl | rfl
  · simp [encE]
  · simp [encE]⟩

theorem own_alloc {base : Nat} {w : World} {v : Value} {l : List Ent} (h : Own encE 2 76 base w v l) (o : Obj) : Own encE 2 76 base (w.alloc o) v l := h.below ((Below.refl _ _).alloc (Nat.le_refl _) o)

theorem below_alloc' {Wa W : World} (h : Below Wa.heap.size Wa W) (o : Obj) : Below Wa.heap.size Wa (W.alloc o) := h.alloc h.size o
theorem below_grown' {Wa W W' : World} {v : Value} {l : List Ent} (h : Below Wa.heap.size Wa W) (hown : Own encE 2 76 Wa.heap.size W v l) (hg : W.grownBy W' v.ownBlock) : Below Wa.heap.size Wa W' := below_grown h hown hg

def AddRel (Wa : World) (es : List Ent) (x : Ent) (i : Nat) (d : Bool) (v : Value) (wr : World) : Prop := ∃ l, Own encE 2 76 Wa.heap.size wr v l ∧ l ++ addFrom x (es.drop i) d = addFrom x es false ∧ l.length ≤ i + (bif d then 1 else 0) ∧ Below Wa.heap.size Wa wr

set_option maxHeartbeats 4000000 in
theorem l12Add_any (w : World) (A : Option Addr) (cap : Nat) (es : List Ent) (x : Ent) (h : RdT encE 2 w A es) (hc : es.length ≤ cap) (hm : cap ≤ 9223372036854775807) (hn : es.length ≤ 1048576) :
    Calls Tryd.prog 79 #[.slice A es.length cap, .agg #[.string x.name, .int .i64 x.id]] w (OwnPost w (addFrom x es false)) := by
  have HR := Lib.hid h
  clear h
  obtain ⟨xn, xi⟩ := x
  go_enter Tryd.func79, Tryd.ntmps79
  go_wp2_with fail
  obtain ⟨Wa, hWa⟩ : ∃ Wa, Wa = w.alloc (.cells #[.string xn, .int .i64 xi] 76) := ⟨_, rfl⟩
  have hsz : Wa.heap.size = w.heap.size + 1 := by rw [hWa]; simp
  have hx0 : Wa.cell? ⟨w.heap.size, 0, none⟩ = some (.string xn) := by rw [hWa]; unfold World.cell?; simp only [heap_alloc_new]; rfl
  have hx1 : Wa.cell? ⟨w.heap.size, 1, none⟩ = some (.int .i64 xi) := by rw [hWa]; unfold World.cell?; simp only [heap_alloc_new]; rfl
  have hBa := Lib.hid (show Below w.heap.size w Wa by rw [hWa]; exact (Below.refl _ _).alloc (Nat.le_refl _) _)
  have HRa := Lib.hid (HR.out.below hBa.out)
  rw [← hWa, show w.heap.size + 1 = Wa.heap.size from hsz.symm]
  have hlt0 : w.heap.size < Wa.heap.size := by omega
  clear hsz hWa
  go_loopw [5, 6, 7] (fun v d y wr => ∃ (i : Nat) (b : Bool), i ≤ es.length ∧ d = .bool b ∧ y = .int .i64 i ∧ Hid (AddRel Wa es ⟨xn, xi⟩ i b v wr)) (fun v d y _ => es.length - (intOf y).toNat)
  case atStart => exact ⟨0, false, Nat.zero_le _, rfl, rfl, Lib.hid ⟨[], Own.empty (Nat.le_refl _), rfl, by simp, (Below.refl _ _).alloc (Nat.le_refl _) _⟩⟩
  case round =>
    clear HR
    obtain ⟨i, bb, hi, rfl, rfl, HA⟩ := hrel
    obtain ⟨l, ho, he, hl, hB⟩ := HA.out
    have HO := Lib.hid ho
    have HE := Lib.hid he
    have HB := Lib.hid hB
    obtain ⟨c0, f0⟩ := bcell hB
    have hltr : w.heap.size < wr.heap.size := Nat.lt_of_lt_of_le hlt0 hB.size
    clear ho he hB HA
    by_cases hlt : i < es.length
    · obtain ⟨b, off, nm, id, rfl, hb, hd, d0, d1⟩ := HRa.out.entry hlt
      have hbr : b < wr.heap.size := Nat.lt_of_lt_of_le hb HB.out.size
      have hl' : l.length ≤ i + 1 := by cases bb <;> simp at hl <;> omega
      have K1 := Lib.hid (And.intro (show (l.length + 1) * 24 ≤ 140737488355328 by omega) (show l.length + 1 ≤ maxLen by unfold maxLen; omega))
      have K2 := Lib.hid (And.intro (show ((l ++ [⟨xn, xi⟩] : List Ent).length + 1) * 24 ≤ 140737488355328 by simp; omega) (show (l ++ [⟨xn, xi⟩] : List Ent).length + 1 ≤ maxLen by unfold maxLen; simp; omega))
      have HD := Lib.hid (addFrom_step hd)
      have k2 : IntKind.i64.wrap ((i : Int) + 1) = (i : Int) + 1 := IntWalk.i64_in _ (by omega)
      cases bb with
      | true =>
        replace hl : l.length ≤ i + 1 := hl
        go_wp2_with fail
        refine wp_quiet_b (by kernel_rfl) (by kernel_rfl) (fun hgrow => ?_)
        repeat (go_big_quiet_step (fail))
        refine wpQuiet_nil ?_
        intro w2 hww2
        replace hww2 := below_of_regrown hww2
        clear hgrow
        obtain ⟨c2, f2⟩ := bcell hww2
        have HO2 := Lib.hid (HO.out.below hww2)
        have HB2 := Lib.hid (HB.out.trans (hww2.mono HB.out.size))
        go_wp2_with (at_builtin; refine wpList_app (ys := ([⟨nm, id⟩] : List Ent)) elE rfl _ _ rfl (by rfl) (own_alloc HO2.out _) (by rfl) rfl (rd_one _ nm id) oneE K1.out.1 K1.out.2 (below_alloc' HB2.out _).size ?_; intro v1 w1 ownv1 grv1 atv1; have belv1 := Lib.hid (below_grown' (below_alloc' HB2.out _) (own_alloc HO2.out _) grv1))
        go_roundw
        case rel =>
          refine ⟨i + 1, true, by omega, rfl, by go_num, Lib.hid ⟨l ++ [⟨nm, id⟩], ownv1, ?_, by simp; omega, belv1.out⟩⟩
          have e := HE.out
          rw [HD.out] at e
          rw [← e]
          simp [addFrom]
        case measure => simp [intOf]; omega
      | false =>
        replace hl : l.length ≤ i := hl
        by_cases hL : Op.bytesLess nm.toList xn.toList = true
        · have HC := Lib.hid (show gtB ⟨nm, id⟩ ⟨xn, xi⟩ = false by simp [gtB, hL])
          go_wp2_with fail
          refine wp_quiet_b (by kernel_rfl) (by kernel_rfl) (fun hgrow => ?_)
          repeat (go_big_quiet_step (fail))
          refine wpQuiet_nil ?_
          intro w2 hww2
          replace hww2 := below_of_regrown hww2
          clear hgrow
          obtain ⟨c2, f2⟩ := bcell hww2
          have HO2 := Lib.hid (HO.out.below hww2)
          have HB2 := Lib.hid (HB.out.trans (hww2.mono HB.out.size))
          go_wp2_with (at_builtin; refine wpList_app (ys := ([⟨nm, id⟩] : List Ent)) elE rfl _ _ rfl (by rfl) (own_alloc HO2.out _) (by rfl) rfl (rd_one _ nm id) oneE K1.out.1 K1.out.2 (below_alloc' HB2.out _).size ?_; intro v1 w1 ownv1 grv1 atv1; have belv1 := Lib.hid (below_grown' (below_alloc' HB2.out _) (own_alloc HO2.out _) grv1))
          go_roundw
          case rel =>
            refine ⟨i + 1, false, by omega, rfl, by go_num, Lib.hid ⟨l ++ [⟨nm, id⟩], ownv1, ?_, by simp; omega, belv1.out⟩⟩
            have e := HE.out
            rw [HD.out] at e
            rw [← e]
            simp [addFrom, HC.out]
          case measure => simp [intOf]; omega
        · replace hL : Op.bytesLess nm.toList xn.toList = false := by simpa using hL
          by_cases hE : (nm.toList == xn.toList) = true
          · have HC := Lib.hid (show gtB ⟨nm, id⟩ ⟨xn, xi⟩ = false by simp only [gtB, hL, hE]; rfl)
            go_wp2_with fail
            refine wp_quiet_b (by kernel_rfl) (by kernel_rfl) (fun hgrow => ?_)
            repeat (go_big_quiet_step (fail))
            refine wpQuiet_nil ?_
            intro w2 hww2
            replace hww2 := below_of_regrown hww2
            clear hgrow
            obtain ⟨c2, f2⟩ := bcell hww2
            have HO2 := Lib.hid (HO.out.below hww2)
            have HB2 := Lib.hid (HB.out.trans (hww2.mono HB.out.size))
            go_wp2_with (at_builtin; refine wpList_app (ys := ([⟨nm, id⟩] : List Ent)) elE rfl _ _ rfl (by rfl) (own_alloc HO2.out _) (by rfl) rfl (rd_one _ nm id) oneE K1.out.1 K1.out.2 (below_alloc' HB2.out _).size ?_; intro v1 w1 ownv1 grv1 atv1; have belv1 := Lib.hid (below_grown' (below_alloc' HB2.out _) (own_alloc HO2.out _) grv1))
            go_roundw
            case rel =>
              refine ⟨i + 1, false, by omega, rfl, by go_num, Lib.hid ⟨l ++ [⟨nm, id⟩], ownv1, ?_, by simp; omega, belv1.out⟩⟩
              have e := HE.out
              rw [HD.out] at e
              rw [← e]
              simp [addFrom, HC.out]
            case measure => simp [intOf]; omega
          · replace hE : (nm.toList == xn.toList) = false := by simpa using hE
            have HC := Lib.hid (show gtB ⟨nm, id⟩ ⟨xn, xi⟩ = true by simp only [gtB, hL, hE]; rfl)
            go_wp2_with fail
            refine wp_quiet_b (by kernel_rfl) (by kernel_rfl) (fun hgrow => ?_)
            repeat (go_big_quiet_step (fail))
            refine wpQuiet_nil ?_
            intro w2 hww2
            replace hww2 := below_of_regrown hww2
            clear hgrow
            obtain ⟨c2, f2⟩ := bcell hww2
            have HO2 := Lib.hid (HO.out.below hww2)
            have HB2 := Lib.hid (HB.out.trans (hww2.mono HB.out.size))
            have hltw : w.heap.size < w2.heap.size := by have := HB2.out.size; omega
            go_wp2_with (first | (at_builtin; (refine wpList_app (ys := ([⟨nm, id⟩] : List Ent)) elE rfl _ _ rfl (by rfl) (own_alloc ownv1 _) (by rfl) rfl (rd_one _ nm id) oneE K2.out.1 K2.out.2 (below_alloc' belv1.out _).size ?_); intro v2 w3 ownv2 grv2 atv2; have belv2 := Lib.hid (below_grown' (below_alloc' belv1.out _) (own_alloc ownv1 _) grv2)) | (at_builtin; refine wpList_app (ys := ([⟨xn, xi⟩] : List Ent)) elE rfl _ _ rfl (by rfl) (own_alloc HO2.out _) (by rfl) rfl (rd_one _ xn xi) oneE K1.out.1 K1.out.2 (below_alloc' HB2.out _).size ?_; intro v1 w1 ownv1 grv1 atv1; have belv1 := Lib.hid (below_grown' (below_alloc' HB2.out _) (own_alloc HO2.out _) grv1); obtain ⟨cv1, fv1⟩ := bcell belv1.out))
            go_roundw
            case rel =>
              refine ⟨i + 1, true, by omega, rfl, by go_num, Lib.hid ⟨l ++ [⟨xn, xi⟩] ++ [⟨nm, id⟩], ownv2, ?_, by simp; omega, belv2.out⟩⟩
              have e := HE.out
              rw [HD.out] at e
              rw [← e]
              simp [addFrom, HC.out]
            case measure => simp [intOf]; omega
    · obtain rfl : i = es.length := by omega
      have hl' : l.length ≤ es.length + 1 := by cases bb <;> simp at hl <;> omega
      have K1 := Lib.hid (And.intro (show (l.length + 1) * 24 ≤ 140737488355328 by omega) (show l.length + 1 ≤ maxLen by unfold maxLen; omega))
      have hlw : w.heap.size ≤ Wa.heap.size := by omega
      cases bb with
      | true =>
        have HX := Lib.hid (show l = addFrom ⟨xn, xi⟩ es false by have := HE.out; rw [List.drop_of_length_le (Nat.le_refl _)] at this; simpa [addFrom] using this)
        go_wp2_with fail
        go_ret
        exact ⟨_, rfl, by rw [← HX.out]; exact HO.out.more hlw, hBa.out.trans (HB.out.mono hlw)⟩
      | false =>
        have HX := Lib.hid (show l ++ [⟨xn, xi⟩] = addFrom ⟨xn, xi⟩ es false by have := HE.out; rw [List.drop_of_length_le (Nat.le_refl _)] at this; simpa [addFrom] using this)
        go_wp2_with (at_builtin; refine wpList_app (ys := ([⟨xn, xi⟩] : List Ent)) elE rfl _ _ rfl (by rfl) (own_alloc HO.out _) (by rfl) rfl (rd_one _ xn xi) oneE K1.out.1 K1.out.2 (below_alloc' HB.out _).size ?_; intro v1 w1 ownv1 grv1 atv1; have belv1 := Lib.hid (below_grown' (below_alloc' HB.out _) (own_alloc HO.out _) grv1))
        go_ret
        exact ⟨_, rfl, by rw [← HX.out]; exact ownv1.more hlw, hBa.out.trans (belv1.out.mono hlw)⟩

end Go.Proofs.YtjalboplilolkaaDoor
