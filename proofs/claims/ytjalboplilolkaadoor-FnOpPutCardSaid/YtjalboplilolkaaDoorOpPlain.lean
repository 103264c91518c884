/- The text of an operation, in plain Lean. -/
import Derived.Test.YtjalboplilolkaaDoorOpOk2
import Derived.Test.YtjalboplilolkaaDoorFields
import Derived.Test.YtjalboplilolkaaDoorBox
namespace Go.Proofs.YtjalboplilolkaaDoor
open Go.RowKit
set_option maxRecDepth 100000
set_option linter.unusedVariables false
set_option linter.unusedSimpArgs false

def opF (o : OpD) : List ByteArray := [decT o.kind, o.path, o.dst, decT o.at_, o.text]
def opT (o : OpD) : ByteArray := if opOkB o = true then recT (opF o) else ⟨#[]⟩
theorem op_bounds {o : OpD} (h : opOkB o = true) : 1 ≤ o.kind ∧ o.kind ≤ 7 ∧ o.path.size ≤ 20 ∧ o.dst.size ≤ 20 ∧ 0 ≤ o.at_ ∧ o.at_ ≤ 192 ∧ o.text.size ≤ 24 := by
  simp only [opOkB, Bool.and_eq_true] at h
  obtain ⟨h1, h2, h3, h4, h5⟩ := h
  have k := inB_true h1
  have p := pathB_size h2
  have d : o.dst.size ≤ 20 := by
    split at h3
    · exact pathB_size h3
    · rw [full_size h3]; omega
  have t : o.text.size ≤ 24 := by
    split at h4
    · exact of_decide_eq_true h4
    · rw [full_size h4]; omega
  have a : 0 ≤ o.at_ ∧ o.at_ ≤ 192 := by
    rcases Bool.or_eq_true _ _ ▸ h5 with h | h
    · have := eq_of_beq h; omega
    · exact inB_true (Bool.and_eq_true _ _ ▸ h).2
  omega
theorem decT_len {n : Int} (h0 : 0 ≤ n) (h1 : n ≤ 999999999) : (decT n).size ≤ 9 := by rw [decT, ofL_size]; exact (decL_len h0 h1).2
theorem fld_le {s : ByteArray} {m : Nat} (h : s.size ≤ m) (hm : m ≤ 999999999) : (fldL s).length ≤ m + 10 := by
  have h1 := fld_len s
  have h2 := (decL_len (n := (s.size : Int)) (by omega) (by omega)).2
  omega
theorem op_rec {o : OpD} (h : opOkB o = true) : recB (opF o) = true := by
  obtain ⟨b1, b2, b3, b4, b5, b6, b7⟩ := op_bounds h
  refine rec_fits (by simp [opF]) ?_
  have f1 := fld_le (decT_len (n := o.kind) (by omega) (by omega)) (by omega)
  have f2 := fld_le b3 (by omega)
  have f3 := fld_le b4 (by omega)
  have f4 := fld_le (decT_len (n := o.at_) (by omega) (by omega)) (by omega)
  have f5 := fld_le b7 (by omega)
  simp only [opF, recL, List.length_append, List.length_nil]
  omega
theorem op_sizes {o : OpD} (h : opOkB o = true) : ∀ x ∈ opF o, x.size ≤ 1048576 := by
  obtain ⟨b1, b2, b3, b4, b5, b6, b7⟩ := op_bounds h
  have f1 := decT_len (n := o.kind) (by omega) (by omega)
  have f4 := decT_len (n := o.at_) (by omega) (by omega)
  intro x hx
  simp only [opF, List.mem_cons, List.not_mem_nil, or_false] at hx
  rcases hx with rfl | rfl | rfl | rfl | rfl <;> omega
theorem op_ne {o : OpD} (h : opOkB o = true) : opT o ≠ ⟨#[]⟩ := fun e => by
  rw [opT, if_pos h] at e
  have := congrArg (fun b : ByteArray => b.data.toList) e
  simp [recT, ofL_data, opF, recL, fldL] at this
theorem rd_fiveS (w : World) (a b c d e : ByteArray) : RdT encS 1 (w.alloc (.cells #[.string a, .string b, .string c, .string d, .string e] 9)) (some ⟨w.heap.size, 0, none⟩) [a, b, c, d, e] := fun _ => ⟨w.heap.size, 0, rfl, by simp, fun i x hx j hj => by
  obtain rfl : j = 0 := by omega
  have hb := (box_new w #[.string a, .string b, .string c, .string d, .string e] 9).cell (0 + i * 1 + 0)
  rw [hb]
  rcases i with _ | _ | _ | _ | _ | i
  all_goals simp at hx
  all_goals (try subst hx)
  all_goals rfl⟩

end Go.Proofs.YtjalboplilolkaaDoor
