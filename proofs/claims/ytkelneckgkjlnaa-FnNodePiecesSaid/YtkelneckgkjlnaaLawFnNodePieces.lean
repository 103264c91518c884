/- FnNodePieces returns true for every code. No condition. -/
import Derived.Test.YtkelneckgkjlnaaLawCode
import Derived.Test.YtkelneckgkjlnaaPieces
import Derived.Test.YtkelneckgkjlnaaDrawNodePieces
namespace Go.Proofs.Ytkelneckgkjlnaa.lawFnNodePieces
open Go.ChangeShapes Go.WideShapes Go.ChangeAt Go.RowKit
set_option linter.unusedVariables false

theorem walk (w : World) (A : Option Addr) (cap : Nat) (zs : List Int) (h : RdT (encI .u8) 1 w A zs) (hb : ∀ z ∈ zs, 0 ≤ z ∧ z ≤ 255) (hc : zs.length ≤ cap) (hm : cap ≤ 9223372036854775807) :
    Calls Try.prog 4 #[.slice A zs.length cap] w fun e w' => e = .returned (.bool true) ∧ Below w.heap.size w w' := by
  have HD := Lib.hid (drawNodePieces_any w A cap zs h hb hc hm)
  clear h hb
  generalize zs.length = n at HD hc ⊢
  by_cases hbig : 1048576 < n
  · clear HD
    go_enter Try.func4, Try.ntmps4
    go_wp2
    go_ret
    exact ⟨rfl, Below.refl _ _⟩
  · go_enter Try.func4, Try.ntmps4
    go_wp2_with fail
    refine HD.out.mono ?_
    rintro e w1 ⟨k, s, rfl, hB⟩
    have HB := Lib.hid hB
    clear hB
    have hcase : (piecesOf k s = -1) ∨ (0 ≤ piecesOf k s ∧ piecesOf k s ≤ 16 ∧ ((k = 1 ∧ 0 ≤ s ∧ s ≤ 192 ∧ s ≤ piecesOf k s * 12 ∧ (piecesOf k s - 1) * 12 < max 1 s) ∨ (k = 2 ∧ 0 ≤ s ∧ s ≤ 2048 ∧ s ≤ piecesOf k s * 128 ∧ (piecesOf k s - 1) * 128 < max 1 s))) := by
      rcases eachOf_cases k with ⟨rfl, _⟩ | ⟨rfl, _⟩ | ⟨h1, h2, _⟩
      · by_cases hr : inB s 0 192 = true
        · have := inB_true hr
          rw [pieces_1 s hr]
          right
          refine ⟨by omega, by omega, .inl ⟨rfl, by omega, by omega, by omega, ?_⟩⟩
          rw [Int.max_def]; split <;> omega
        · rw [pieces_1n s (by simpa using hr)]; exact .inl rfl
      · by_cases hr : inB s 0 2048 = true
        · have := inB_true hr
          rw [pieces_2 s hr]
          right
          refine ⟨by omega, by omega, .inr ⟨rfl, by omega, by omega, by omega, ?_⟩⟩
          rw [Int.max_def]; split <;> omega
        · rw [pieces_2n s (by simpa using hr)]; exact .inl rfl
      · exact .inl (pieces_0 k s h1 h2)
    have H1 := Lib.hid (fun w => specNodePieces_any k s w)
    have H2 := Lib.hid (fun w => nodePieces_any k s w)
    generalize piecesOf k s = P at hcase H1 H2
    rcases hcase with rfl | ⟨h0, h16, ⟨rfl, h1, h2, h3, h4⟩ | ⟨rfl, h1, h2, h3, h4⟩⟩
    · go_wp2_with (first | (go_at_call 7; refine (H1.out _).mono ?_; rintro e w' ⟨rfl, rfl⟩) | (go_at_call 8; refine (H2.out _).mono ?_; rintro e w' ⟨rfl, rfl⟩))
      go_ret
      exact ⟨rfl, HB.out⟩
    · go_wp2_with (first | (go_at_call 7; refine (H1.out _).mono ?_; rintro e w' ⟨rfl, rfl⟩) | (go_at_call 8; refine (H2.out _).mono ?_; rintro e w' ⟨rfl, rfl⟩))
      all_goals go_ret
      all_goals exact ⟨rfl, HB.out⟩
    · go_wp2_with (first | (go_at_call 7; refine (H1.out _).mono ?_; rintro e w' ⟨rfl, rfl⟩) | (go_at_call 8; refine (H2.out _).mono ?_; rintro e w' ⟨rfl, rfl⟩))
      all_goals go_ret
      all_goals exact ⟨rfl, HB.out⟩

set_option maxRecDepth 100000 in
theorem lifted (os : Os) (started : os.Started) (H : Type) (enc : TypeId × Value → H) :
    ReturnsInHanded {} Try.checked os 4 .any (Rows.fnNodePiecesSpec.pre6 enc Try.prog Try.f4 Rows.fnNodePiecesRow.domain false) (Rows.fnNodePiecesSpec.post enc Try.prog Try.f4 false true false false) := by
  refine returnsInHanded_of_change (C := Try.checked) own started (by kernel_rfl) Try.func4
    (ChangeSpec.witness6 (enc := enc) (C := Try.checked) false ⟨#[], #[.slice none 0 0], []⟩ 8 (by kernel_rfl) (by kernel_rfl) (by kernel_rfl) (by kernel_rfl)) ?_
  intro W base args ds gs before hval0 hW hcnd _
  have hval : ∀ (j : Nat) t v, Try.f4.params[j]? = some t → args[j]? = some v → Value.okWide Try.prog W .any base t v := hval0
  have hW' := hW
  obtain ⟨p, q, hA, hV, rfl, hfz, hnd⟩ := hW
  obtain ⟨rfl, rfl⟩ := trodVars_none hV
  have hA0 : DataW.TrodAll enc Try.prog W 0 (fun _ => true) true Try.f4.params.toList args.toList ds p := hA
  rw [Try.params4] at hA0 hval
  obtain ⟨v0, vs0, d0, ds0, p0, q0, hargs, rfl, rfl, h0, r0⟩ := trodAll_cons hA0
  obtain ⟨rfl, rfl, rfl⟩ := trodAll_nil r0
  obtain rfl : args = #[v0] := by cases args; simp_all
  obtain ⟨A, cap, zs, rfl, hc, hm, hrd, hb⟩ := open_code (hval 0 24 v0 rfl rfl) h0
  refine (walk W A cap zs hrd hb hc hm).mono fun e W' ⟨he, bel⟩ => ?_
  subst he
  exact ⟨_, rfl, law_post rfl (by kernel_rfl) (params_ok (by kernel_rfl)) hW' rfl rfl rfl bel⟩

theorem proved : Rows.FnNodePiecesSaid :=
  OpenClaim.holds_of_wide 4 Try.f4 rfl rfl rfl rfl rfl rfl rfl ⟨rfl, rfl, rfl, rfl, rfl⟩ rfl rfl rfl rfl rfl (by kernel_rfl) Try.func4 (by kernel_rfl)
    (of_decide_eq_true (by kernel_rfl)) (by unfold Func.isWrapper; first | (rw [if_pos (by decide +kernel)]; kernel_rfl) | (rw [if_neg (by decide +kernel)]; exact ⟨rfl, rfl⟩))
    (fun os started H enc _ => lifted os started H enc)
end Go.Proofs.Ytkelneckgkjlnaa.lawFnNodePieces
