/- FnExactNodeOk returns true for every node. No condition. -/
import Derived.Test.YtkelneckgkjlnaaNodeOk
import Derived.Test.YtkelneckgkjlnaaNodeHelp
namespace Go.Proofs.Ytkelneckgkjlnaa.lawExactNodeOk
open Go.ChangeShapes Go.WideShapes Go.ChangeAt Go.RowKit

theorem walk (a0 : Nd) (w : World) :
    Calls Try.prog 5 #[a0.v] w fun e w' => e = .returned (.bool true) ∧ Below w.heap.size w w' := by
  generalize hP : nodeB a0 = P
  have H1 := Lib.hid (fun w => hP ▸ specNodeOk_any a0 w)
  have H2 := Lib.hid (fun w => hP ▸ nodeOk_any a0 w)
  have H3 := Lib.hid (toNode_any a0)
  clear hP
  obtain ⟨k, li, s, ⟨a, b, z, u, l⟩, d, m⟩ := a0
  unfold Nd.v at *
  dsimp only at *
  go_enter Try.func5, Try.ntmps5
  go_wp2_with (first | (go_at_call 11; refine (H3.out _).mono ?_; rintro e w1 ⟨rfl, hb⟩; (first | replace hB := below_below hB hb | have hB := hb); clear hb; obtain ⟨c, f⟩ := bcell hB) | (go_at_call 10; refine (H1.out _).mono ?_; rintro e w2 ⟨rfl, hb⟩; (first | replace hB := below_below hB hb | have hB := hb); clear hb; obtain ⟨c, f⟩ := bcell hB) | (go_at_call 12; refine (H2.out _).mono ?_; rintro e w3 ⟨rfl, hb⟩; (first | replace hB := below_below hB hb | have hB := hb); clear hb; obtain ⟨c, f⟩ := bcell hB))
  all_goals go_ret
  all_goals exact ⟨rfl, by (repeat (first | assumption | exact Below.refl _ _ | refine below_alloc ?_ _ | refine Below.drew ?_ | refine below_drewN ?_ _ | refine below_set ?_ (by first | exact Nat.le_refl _ | omega | (simp; done) | (simp; omega)) _ | refine below_kp ?_ (by assumption) (by simp) | refine below_below ?_ (by assumption)))⟩

set_option maxRecDepth 100000 in
theorem lifted (os : Os) (started : os.Started) (H : Type) (enc : TypeId × Value → H) :
    ReturnsInHanded {} Try.checked os 5 .any (Rows.fnExactNodeOkSpec.pre6 enc Try.prog Try.f5 Rows.fnExactNodeOkRow.domain false) (Rows.fnExactNodeOkSpec.post enc Try.prog Try.f5 false true false false) := by
  refine returnsInHanded_of_change (C := Try.checked) own started (by kernel_rfl) Try.func5
    (ChangeSpec.witness6 (enc := enc) (C := Try.checked) false ⟨#[], #[.agg #[.int .i64 0, .int .i64 0, .int .i64 0, .int .i64 0, .int .i64 0, .int .i64 0, .int .i64 0, .int .i64 0, .int .i64 0, .int .i64 0]], []⟩ 8 (by kernel_rfl) (by kernel_rfl) (by kernel_rfl) (by kernel_rfl)) ?_
  intro W base args ds gs before hval0 hW hcnd _
  have hval : ∀ (j : Nat) t v, Try.f5.params[j]? = some t → args[j]? = some v → Value.okWide Try.prog W .any base t v := hval0
  have hW' := hW
  obtain ⟨p, q, hA, hV, rfl, hfz, hnd⟩ := hW
  obtain ⟨rfl, rfl⟩ := trodVars_none hV
  have hA0 : DataW.TrodAll enc Try.prog W 0 (fun _ => true) true Try.f5.params.toList args.toList ds p := hA
  rw [Try.params5] at hA0 hval
  obtain ⟨v0, vs0, d0, ds0, p0, q0, hargs, rfl, rfl, h0, r0⟩ := trodAll_cons hA0
  obtain ⟨rfl, rfl, rfl⟩ := trodAll_nil r0
  obtain rfl : args = #[v0] := by cases args; simp_all
  obtain ⟨a0, rfl⟩ := open_node (hval 0 33 v0 rfl rfl) h0
  refine (walk a0 W).mono fun e W' ⟨he, bel⟩ => ?_
  subst he
  exact ⟨_, rfl, law_post rfl (by kernel_rfl) (params_ok (by kernel_rfl)) hW' rfl rfl rfl bel⟩

theorem proved : Rows.FnExactNodeOkSaid :=
  OpenClaim.holds_of_wide 5 Try.f5 rfl rfl rfl rfl rfl rfl rfl ⟨rfl, rfl, rfl, rfl, rfl⟩ rfl rfl rfl rfl rfl (by kernel_rfl) Try.func5 (by kernel_rfl)
    (of_decide_eq_true (by kernel_rfl)) (by unfold Func.isWrapper; first | (rw [if_pos (by decide +kernel)]; kernel_rfl) | (rw [if_neg (by decide +kernel)]; exact ⟨rfl, rfl⟩))
    (fun os started H enc _ => lifted os started H enc)

end Go.Proofs.Ytkelneckgkjlnaa.lawExactNodeOk
