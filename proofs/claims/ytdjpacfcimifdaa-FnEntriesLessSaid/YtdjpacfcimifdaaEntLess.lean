/- One entry taken out: the reference's l12Less and EntriesLess. -/
import Derived.Test.YtdjpacfcimifdaaEntFind
import Derived.Test.YtdjpacfcimifdaaAppend
namespace Go.Proofs.Ytdjpacfcimifdaa
open Go.RowKit
set_option linter.unusedVariables false
set_option linter.unusedSimpArgs false

theorem elE : El 26 39 2 24 := El.mk' Try.underlying26 (z := .agg #[.string ⟨#[]⟩, .int .i64 0]) (by kernel_rfl) rfl (by omega)
theorem oneE : OneC encE := fun x j => by
  cases j <;> rfl

def OwnPost (w : World) (es : List Ent) (e : Ending) (w' : World) : Prop := ∃ v, e = .returned v ∧ Own encE 2 39 w.heap.size w' v es ∧ Below w.heap.size w w'

set_option maxHeartbeats 800000 in
theorem l12Less_any (w : World) (A : Option Addr) (cap : Nat) (es : List Ent) (i : Nat) (h : RdT encE 2 w A es) (hc : es.length ≤ cap) (hm : cap ≤ 9223372036854775807) (hn : es.length ≤ 1048576) (hi : i < es.length) :
    Calls Try.prog 40 #[.slice A es.length cap, .int .i64 i] w (OwnPost w (es.take i ++ es.drop (i + 1))) := by
  have HR := Lib.hid h
  obtain ⟨b, off, rfl, hb⟩ := h (by omega)
  have HR1 := Lib.hid (HR.out.take i)
  have HR2 := Lib.hid (HR.out.drop (i + 1) rfl)
  have HT := Lib.hid (show i = (es.take i).length by rw [List.length_take]; omega)
  have HD := Lib.hid (show es.length - (i + 1) = (es.drop (i + 1)).length by rw [List.length_drop])
  have k1 : i ≤ cap := by omega
  have k2 : IntKind.i64.wrap ((i : Int) + 1) = (i : Int) + 1 := IntWalk.i64_in _ (by omega)
  have k3 : (0 : Int) ≤ (i : Int) + 1 := by omega
  have k4 : (i : Int) + 1 ≤ (es.length : Int) := by omega
  have k5 : ((i : Int) + 1).toNat = i + 1 := by omega
  have k6 : i + 1 ≤ es.length := by omega
  clear hb
  have k7 : (0 + (es.take i).length) * 24 ≤ 140737488355328 := by rw [List.length_take]; omega
  have k8 : 0 + (es.take i).length ≤ maxLen := by rw [List.length_take]; unfold maxLen; omega
  have k9 : (([] ++ es.take i).length + (es.drop (i + 1)).length) * 24 ≤ 140737488355328 := by simp; omega
  have k10 : ([] ++ es.take i).length + (es.drop (i + 1)).length ≤ maxLen := by simp; unfold maxLen; omega
  have K := Lib.hid (And.intro k7 (And.intro k8 (And.intro k9 k10)))
  clear k7 k8 k9 k10
  have hE := Lib.hid (show Own encE 2 39 w.heap.size (w.alloc (.cells #[] 39)).drew (.slice (some ⟨w.heap.size, 0, none⟩) 0 0) ([] : List Ent) from Own.empty (Nat.le_refl _))
  have hBa : Below w.heap.size w (w.alloc (.cells #[] 39)).drew := ((Below.refl _ _).alloc (Nat.le_refl _) _).drew
  have hRa := Lib.hid (HR1.out.below hBa)
  have hBH := Lib.hid hBa
  by_cases hcap : cap = i + 1
  · subst hcap
    have HR2' := Lib.hid (show RdT encE 2 w (some ⟨b, off, none⟩) (es.drop (i + 1)) by rw [List.drop_of_length_le hc]; exact RdT.none_)
    have HD' := Lib.hid (show 0 = (es.drop (i + 1)).length by rw [List.length_drop]; omega)
    have k11 : (i : Int) ≤ (i : Int) + 1 := by omega
    go_enter Try.func40, Try.ntmps40
    go_wp2_with fail
    go_region_law (first
      | (refine step_app elE rfl (.tmp 9) (.tmp 13) (by rfl) (by rfl) hown1 (by rfl) HD'.out (HR2'.out.below hB1.out) oneE K.out.2.2.1 K.out.2.2.2 hB1.out.size ?_; intro v2 w2 hown2 hg2 hat2; have hB2 := Lib.hid (below_grown hB1.out hown1 hg2))
      | (refine step_app elE rfl (.tmp 5) (.tmp 8) (by rfl) (by rfl) hE.out (by rfl) HT.out hRa.out oneE K.out.1 K.out.2.1 hBH.out.size ?_; intro v1 w1 hown1 hg1 hat1; have hB1 := Lib.hid (below_grown hBH.out hE.out hg1)))
    all_goals go_wp2_with fail
    all_goals exact bodyPost_ret (v := v2) (by simp [results, Try.results40, go_sem]) rfl ⟨_, rfl, hown2, hB2.out⟩
  · skip
    go_enter Try.func40, Try.ntmps40
    go_wp2_with fail
    go_region_law (first
      | (refine step_app elE rfl (.tmp 9) (.tmp 13) (by rfl) (by rfl) hown1 (by rfl) HD.out (HR2.out.below hB1.out) oneE K.out.2.2.1 K.out.2.2.2 hB1.out.size ?_; intro v2 w2 hown2 hg2 hat2; have hB2 := Lib.hid (below_grown hB1.out hown1 hg2))
      | (refine step_app elE rfl (.tmp 5) (.tmp 8) (by rfl) (by rfl) hE.out (by rfl) HT.out hRa.out oneE K.out.1 K.out.2.1 hBH.out.size ?_; intro v1 w1 hown1 hg1 hat1; have hB1 := Lib.hid (below_grown hBH.out hE.out hg1)))
    all_goals go_wp2_with fail
    all_goals exact bodyPost_ret (v := v2) (by simp [results, Try.results40, go_sem]) rfl ⟨_, rfl, hown2, hB2.out⟩

end Go.Proofs.Ytdjpacfcimifdaa
