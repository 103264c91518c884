/- FnOpPut returns true for every code. The package-level variables that its row lists are tied; no condition of ours. -/
import Derived.Test.YtjalboplilolkaaDoorLawCard
import Derived.Test.YtjalboplilolkaaDoorOpText
import Derived.Test.YtjalboplilolkaaDoorOpGet
import Derived.Test.YtjalboplilolkaaDoorCardNum
import Derived.Test.YtjalboplilolkaaDoorDrawOp3
namespace Go.Proofs.YtjalboplilolkaaDoor.lawFnOpPut
open Go.ChangeShapes Go.WideShapes Go.ChangeAt Go.RowKit
set_option linter.unusedVariables false
set_option linter.unusedSimpArgs false

theorem opT_size (o : OpD) : (opT o).size ≤ 1048576 := by
  unfold opT
  split
  · next h =>
    have := (recB_iff.1 (op_rec h)).2
    rw [recT, ofL_size]
    omega
  · decide

theorem maxAt_of {W : World} (h : W.ShapedOpen Tryd.prog) : MaxAt W := Tryd.laysM146.s1_3 W h

set_option maxHeartbeats 4000000 in
theorem walk (w : World) (A : Option Addr) (cap : Nat) (zs : List Int) (h : RdT (encI .u8) 1 w A zs) (hb : ∀ z ∈ zs, 0 ≤ z ∧ z ≤ 255) (hc : zs.length ≤ cap) (hm : cap ≤ 9223372036854775807) (hM : MaxAt w) (hT : TenAt w) (hE : ErrAt w) :
    Calls Tryd.prog 12 #[.slice A zs.length cap] w fun e w' => e = .returned (.bool true) ∧ Below w.heap.size w w' := by
  have HD := Lib.hid (drawOpPut_any w A cap zs h hb hc hm)
  have HM := Lib.hid (And.intro hM (And.intro hT hE))
  clear h hb hT hM hE
  generalize zs.length = n at HD hc ⊢
  by_cases hbig : 1048576 < n
  · clear HD
    go_enter Tryd.func12, Tryd.ntmps12
    go_wp2
    go_ret
    exact ⟨rfl, Below.refl _ _⟩
  go_enter Tryd.func12, Tryd.ntmps12
  go_wp2_with fail
  refine Calls.mono HD.out ?_
  rintro e w1 ⟨o, rfl, hp, ht, hx, hB⟩
  have HS := Lib.hid (fun w => specOpPut_any w o (by omega) (by omega) (by omega))
  have HP := Lib.hid (fun w hM hT => opPut_any w o hM hT (by omega) (by omega) (by omega))
  have HG := Lib.hid (fun w h1 h2 h3 => opGet_any w (opT o) h1 h2 h3 (opT_size o))
  have HGO := Lib.hid (fun (h : opOkB o = true) => opG_put h)
  have hE0 : (opT o).toList = [] ↔ opOkB o = false := by
    cases hk : opOkB o
    · rw [opT, if_neg (by simp [hk])]
      simp
    · have := op_ne hk
      simp only [Bool.true_eq_false, iff_false]
      intro he
      refine this ?_
      have h2 : (opT o).data.toList = [] := by rw [← Lib.toList_data]; exact he
      have h3 : (opT o).data = #[] := by simpa using h2
      exact ByteArray.ext h3
  have hE : ((opT o).toList == (⟨#[]⟩ : ByteArray).toList) = !opOkB o := by
    cases hk : opOkB o
    · rw [hE0.2 hk]
      simp
    · simp only [Bool.not_true, beq_eq_false_iff_ne, ne_eq]
      intro he
      have := hE0.1 (by simpa using he)
      simp [hk] at this
  have hQ : (opT o).toList.isEmpty = !opOkB o := by
    cases hk : opOkB o
    · rw [hE0.2 hk]
      rfl
    · cases hl : (opT o).toList.isEmpty
      · rfl
      · have := hE0.1 (by simpa using hl)
        simp [hk] at this
  clear hE0
  have HGN := Lib.hid (fun o' b' (h : opOkB o = true) (g : OpG (opT o) o' b') => opG_one g (opG_put h))
  obtain ⟨kd, pa, dst, at_, tx⟩ := o
  simp only [OpD.v] at HS HP ⊢
  generalize opT _ = S at *
  generalize opOkB _ = b at *
  have q1 : (pa.toList == pa.toList) = true := by simp
  have q2 : (dst.toList == dst.toList) = true := by simp
  have q3 : (tx.toList == tx.toList) = true := by simp
  have q4 : (kd == kd) = true := by simp
  have q5 : (at_ == at_) = true := by simp
  have q6 : (S.toList == S.toList) = true := by simp
  have HB1 := Lib.hid (below_alloc hB (.cells #[.int .i64 kd, .string pa, .string dst, .int .i64 at_, .string tx] 54))
  have hlt : w.heap.size ≤ w1.heap.size := hB.size
  have BX := Lib.hid (box_new w1 #[.int .i64 kd, .string pa, .string dst, .int .i64 at_, .string tx] 54)
  clear hB HD hp ht hx
  go_wp2_with fail
  refine Calls.mono (HP.out _ (HM.out.1.below HB1.out) (HM.out.2.1.below HB1.out)) ?_
  rintro e w2 ⟨rfl, hB⟩
  have HB2 := Lib.hid (below_below HB1.out hB)
  have BX2 := Lib.hid (BX.out.below hB)
  have c2 := BX2.out.cell
  have l2 := BX2.out.lt
  clear hB HB1 BX
  go_wp2_with fail
  refine Calls.mono (HS.out _) ?_
  rintro e w3 ⟨rfl, hB⟩
  have HB3 := Lib.hid (below_below HB2.out hB)
  have BX3 := Lib.hid (BX2.out.below hB)
  have c3 := BX3.out.cell
  have l3 := BX3.out.lt
  clear hB HB2 BX2 c2 l2
  cases b with
  | false =>
    simp only [Bool.not_false] at hE hQ
    go_wp2_with fail
    go_ret
    exact ⟨rfl, HB3.out⟩
  | true =>
    simp only [Bool.not_true] at hE hQ
    go_wp2_with fail
    refine Calls.mono (HG.out _ (HM.out.1.below HB3.out) (HM.out.2.1.below HB3.out) (HM.out.2.2.below HB3.out)) ?_
    rintro e w4 ⟨o', b', rfl, hg, hB⟩
    obtain ⟨rfl, rfl⟩ := HGN.out _ _ trivial hg
    simp only [OpD.v]
    have HB4 := Lib.hid (below_alloc (below_below HB3.out hB) (.cells #[.int .i64 kd, .string pa, .string dst, .int .i64 at_, .string tx] 54))
    have BX4 := Lib.hid (BX3.out.below hB)
    have c4 := BX4.out.cell
    have l4 := BX4.out.lt
    clear hB hg HGN HGO
    go_wp2_with fail
    go_ret
    exact ⟨by simp, HB4.out⟩

theorem laid_met (os : Os) : laidMet Tryd.prog Rows.fnOpPutRow.laid ((World.laidAll Tryd.prog os Rows.fnOpPutRow.laid).forCall (fun _ _ => 0) ⟨#[], #[.slice none 0 0], []⟩).memory := laidMet_laidAll _ (by kernel_rfl) (by kernel_rfl)
theorem reads (os : Os) {H : Type} (enc : TypeId × Value → H) : ∃ places, DataW.whole enc Tryd.prog ((World.laidAll Tryd.prog os Rows.fnOpPutRow.laid).forCall (fun _ _ => 0) ⟨#[], #[.slice none 0 0], []⟩).memory Tryd.f12.params.toList Rows.fnOpPutSpec.vars false (#[.slice none 0 0] : Array Value).toList 8 = some ([.nil], [], places) :=
  ⟨[], by kernel_rfl⟩

set_option maxRecDepth 100000 in
theorem lifted (os : Os) (started : os.Started) (H : Type) (enc : TypeId × Value → H) (F : Stop.Interp) :
    ReturnsInHanded {} Tryd.checked os 12 .any ((OpenSpec.ofChange Rows.fnOpPutSpec).preRow enc Tryd.prog Tryd.f12 Rows.fnOpPutRow.domain false Rows.fnOpPutRow.laid) (((OpenSpec.ofChange Rows.fnOpPutSpec).at F).post enc Tryd.prog Tryd.f12 false true false false) := by
  obtain ⟨places, hx⟩ := reads os enc
  refine returnsInHanded_of_row (C := Tryd.checked) (s := OpenSpec.ofChange Rows.fnOpPutSpec) own started (by kernel_rfl) Tryd.func12
    (witness_row_at (enc := enc) (C := Tryd.checked) false (World.laidAll Tryd.prog os Rows.fnOpPutRow.laid) #[.slice none 0 0] (World.laidAll_os _ _ _) (by kernel_rfl) (by kernel_rfl) (by kernel_rfl)
      (OpenSpec.preRow_of_cond 8 hx (by kernel_rfl) (fun k hk => by cases hk) (by kernel_rfl) (laid_met os))) ?_
  intro W base args ds gs before hval0 hW _ _ _ hL hsh _
  have hval : ∀ (j : Nat) t v, Tryd.f12.params[j]? = some t → args[j]? = some v → Value.okWide Tryd.prog W .any base t v := hval0
  have hW' := hW
  obtain ⟨p, q, hA, hV, rfl, hfz, hnd⟩ := hW
  obtain ⟨rfl, rfl⟩ := trodVars_none hV
  have hA0 : DataW.TrodAll enc Tryd.prog W 0 (fun _ => true) true Tryd.f12.params.toList args.toList ds p := hA
  rw [Tryd.params12] at hA0 hval
  obtain ⟨v0, vs0, d0, ds0, p0, q0, hargs, rfl, rfl, h0, r0⟩ := trodAll_cons hA0
  obtain ⟨rfl, rfl, rfl⟩ := trodAll_nil r0
  obtain rfl : args = #[v0] := by cases args; simp_all
  obtain ⟨cA, cc, c, rfl, chc, chm, cr, cb⟩ := open_code (hval 0 22 v0 rfl rfl) h0
  refine (walk W cA cc c cr cb chc chm (maxAt_of hsh) (tenAt_of hL.tail.tail) (errAt_of hL.tail.tail.tail.tail.tail)).mono fun e W' ⟨he, bel⟩ => ?_
  subst he
  exact ⟨_, rfl, law_post (s := Rows.fnOpPutSpec) rfl (by kernel_rfl) (params_ok (by kernel_rfl)) hW' rfl rfl rfl bel⟩

theorem said : Rows.FnOpPutSaid :=
  OpenClaim.holds_of_cond 12 Tryd.f12 rfl rfl rfl rfl rfl rfl rfl ⟨rfl, rfl, rfl, rfl, rfl⟩ rfl rfl rfl rfl rfl (by kernel_rfl) Tryd.func12 (by kernel_rfl)
    (of_decide_eq_true (by kernel_rfl)) (by unfold Func.isWrapper; first | (rw [if_pos (by decide +kernel)]; kernel_rfl) | (rw [if_neg (by decide +kernel)]; exact ⟨rfl, rfl⟩))
    (fun os started H enc _ F => by rw [OpenClaim.pre_eq_preRow]; exact lifted os started H enc F)

theorem plain (f : FuncId) (fn : Func) (hf : Tryd.pinned.checked.prog.funcNamed "loop.example/poolfiles/laws.FnOpPut" = some f) (hfn : Tryd.pinned.checked.prog.funcs[f]? = some fn) :
    true = Tryd.pinned.checked.prog.looks [] ∧ ∀ (j : Nat) t, fn.params[j]? = some t → Tryd.pinned.checked.prog.wantsStandIn t = false := by
  obtain rfl : f = 12 := Option.some.inj ((show Tryd.prog.funcNamed "loop.example/poolfiles/laws.FnOpPut" = some 12 by kernel_rfl).symm.trans hf) |>.symm
  obtain rfl : fn = Tryd.f12 := (Option.some.inj (Tryd.func12.symm.trans hfn)).symm
  refine ⟨by kernel_rfl, fun j t ht => ?_⟩
  have hall : (Tryd.f12.params.toList.all fun t => !(Tryd.prog.wantsStandIn t)) = true := by kernel_rfl
  have := List.all_eq_true.1 hall t (Array.mem_toList_iff.2 (Array.mem_of_getElem? ht))
  show Tryd.prog.wantsStandIn t = false
  simpa using this

theorem proved : Rows.FnOpPutCardSaid :=
  Claim7.holds_tied_plain_at .later [] _ _ _ _ said (fun _ h => by cases h) (by kernel_rfl) (fun _ h => by cases h) fnOpPut_row_tie rfl ⟨rfl, rfl⟩ (by kernel_rfl) rfl plain (by kernel_rfl)

end Go.Proofs.YtjalboplilolkaaDoor.lawFnOpPut
