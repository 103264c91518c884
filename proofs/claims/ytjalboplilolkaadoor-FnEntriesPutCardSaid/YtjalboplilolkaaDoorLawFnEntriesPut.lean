/- FnEntriesPut returns true for every code. The package-level variables that its row lists are tied; no condition of ours. -/
import Derived.Test.YtjalboplilolkaaDoorEntGet
import Derived.Test.YtjalboplilolkaaDoorDrawEnts3E
import Derived.Test.YtjalboplilolkaaDoorCardNum
namespace Go.Proofs.YtjalboplilolkaaDoor.lawFnEntriesPut
open Go.ChangeShapes Go.WideShapes Go.ChangeAt Go.RowKit
set_option linter.unusedVariables false
set_option linter.unusedSimpArgs false

set_option maxHeartbeats 4000000 in
theorem walk (w : World) (A : Option Addr) (cap : Nat) (zs : List Int) (h : RdT (encI .u8) 1 w A zs) (hb : ∀ z ∈ zs, 0 ≤ z ∧ z ≤ 255) (hc : zs.length ≤ cap) (hm : cap ≤ 9223372036854775807) (hT : TenAt w) (hE : ErrAt w) (hM : CutAt w) :
    Calls Tryd.prog 5 #[.slice A zs.length cap] w fun e w' => e = .returned (.bool true) ∧ Below w.heap.size w w' := by
  have HD := Lib.hid (drawEntriesPut_any w A cap zs h hb hc hm)
  have LB := Lib.hid (And.intro hT (And.intro hE hM))
  clear h hb hT hE hM
  generalize zs.length = n at HD hc ⊢
  by_cases hbig : 1048576 < n
  · clear HD
    go_enter Tryd.func5, Tryd.ntmps5
    go_wp2
    go_ret
    exact ⟨rfl, Below.refl _ _⟩
  go_enter Tryd.func5, Tryd.ntmps5
  go_wp2_with fail
  refine Calls.mono HD.out ?_
  rintro e w1 ⟨v, es, rfl, hO, hln, hz, hB⟩
  obtain ⟨A1, c1, rfl, hc1, hm1, _, hrd⟩ := hO.form
  have R1 := Lib.hid hrd
  have HZ := Lib.hid (show ∀ e ∈ es, e.name.size ≤ 9223372036854775807 from fun e he => by have := hz e he; omega)
  have HB1 := Lib.hid hB
  have HS := Lib.hid (fun w h => specEntriesPut_any w A1 c1 es h hc1 hm1 HZ.out)
  have HP := Lib.hid (fun w hT h => entriesPut_any w A1 c1 es hT h hc1 hm1 HZ.out)
  unfold PutE at HP HS
  clear hB HD hO hrd hz HZ
  cases hok : entriesOkB es
  · rw [hok] at HP HS
    simp only [Bool.false_eq_true, if_false] at HP HS
    have e1 : ((⟨#[]⟩ : ByteArray).toList == (⟨#[]⟩ : ByteArray).toList) = true := by simp
    go_wp2_with fail
    refine Calls.mono (HP.out w1 (LB.out.1.below HB1.out) R1.out) ?_
    rintro e w2 ⟨rfl, hB⟩
    have HB2 := Lib.hid (below_below HB1.out hB)
    have R2 := Lib.hid (R1.out.below hB)
    clear hB HB1 R1
    go_wp2_with fail
    refine Calls.mono (HS.out w2 R2.out) ?_
    rintro e w3 ⟨rfl, hB⟩
    have HB3 := Lib.hid (below_below HB2.out hB)
    clear hB HB2 R2
    go_wp2_with fail
    go_ret
    exact ⟨rfl, HB3.out⟩
  · rw [hok] at HP HS
    simp only [if_true] at HP HS
    have hz := entsT_size hok
    have HG := Lib.hid (entG_put hok)
    generalize entsT es = S at *
    have HI := Lib.hid (fun w hT hE hM => entriesGet_any w S hT hE hM (by omega))
    have e1 : (S.toList == S.toList) = true := by simp
    clear hok
    go_wp2_with fail
    refine Calls.mono (HP.out w1 (LB.out.1.below HB1.out) R1.out) ?_
    rintro e w2 ⟨rfl, hB⟩
    have HB2 := Lib.hid (below_below HB1.out hB)
    have R2 := Lib.hid (R1.out.below hB)
    clear hB HB1 R1
    go_wp2_with fail
    refine Calls.mono (HS.out w2 R2.out) ?_
    rintro e w3 ⟨rfl, hB⟩
    have HB3 := Lib.hid (below_below HB2.out hB)
    have R3 := Lib.hid (R2.out.below hB)
    clear hB HB2 R2
    go_wp2_with fail
    refine Calls.mono (HI.out w3 (LB.out.1.below HB3.out) (LB.out.2.1.below HB3.out) (LB.out.2.2.below HB3.out)) ?_
    rintro e w4 ⟨v, l, B, rfl, hG, hO, hB⟩
    obtain ⟨rfl, rfl⟩ := entG_one hG HG.out
    obtain ⟨A4, c4, rfl, hl4, hc4, _, hrd4⟩ := hO.form
    have HR4 := Lib.hid hrd4
    have HB4 := Lib.hid (below_below HB3.out hB)
    have R4 := Lib.hid (R3.out.below hB)
    clear hB HB3 R3 hO hrd4 hG
    go_wp2_with fail
    refine Calls.mono (pfEntries_true w4 A4 A1 c4 c1 l HR4.out R4.out hl4 hc1 hc4) ?_
    rintro e w5 ⟨rfl, hB⟩
    have HB5 := Lib.hid (below_below HB4.out hB)
    have hz2 : (decide ((S.size : Int) ≤ 128)) = true := by simp; omega
    clear hB
    go_wp2_with fail
    go_ret
    exact ⟨rfl, HB5.out⟩

theorem laid_met (os : Os) : laidMet Tryd.prog Rows.fnEntriesPutRow.laid ((World.laidAll Tryd.prog os Rows.fnEntriesPutRow.laid).forCall (fun _ _ => 0) ⟨#[], #[.slice none 0 0], []⟩).memory := laidMet_laidAll _ (by kernel_rfl) (by kernel_rfl)
theorem reads (os : Os) {H : Type} (enc : TypeId × Value → H) : ∃ places, DataW.whole enc Tryd.prog ((World.laidAll Tryd.prog os Rows.fnEntriesPutRow.laid).forCall (fun _ _ => 0) ⟨#[], #[.slice none 0 0], []⟩).memory Tryd.f5.params.toList Rows.fnEntriesPutSpec.vars false (#[.slice none 0 0] : Array Value).toList 8 = some ([.nil], [], places) :=
  ⟨[], by kernel_rfl⟩

set_option maxRecDepth 100000 in
theorem lifted (os : Os) (started : os.Started) (H : Type) (enc : TypeId × Value → H) (F : Stop.Interp) :
    ReturnsInHanded {} Tryd.checked os 5 .any ((OpenSpec.ofChange Rows.fnEntriesPutSpec).preRow enc Tryd.prog Tryd.f5 Rows.fnEntriesPutRow.domain false Rows.fnEntriesPutRow.laid) (((OpenSpec.ofChange Rows.fnEntriesPutSpec).at F).post enc Tryd.prog Tryd.f5 false true false false) := by
  obtain ⟨places, hx⟩ := reads os enc
  refine returnsInHanded_of_row (C := Tryd.checked) (s := OpenSpec.ofChange Rows.fnEntriesPutSpec) own started (by kernel_rfl) Tryd.func5
    (witness_row_at (enc := enc) (C := Tryd.checked) false (World.laidAll Tryd.prog os Rows.fnEntriesPutRow.laid) #[.slice none 0 0] (World.laidAll_os _ _ _) (by kernel_rfl) (by kernel_rfl) (by kernel_rfl)
      (OpenSpec.preRow_of_cond 8 hx (by kernel_rfl) (fun k hk => by cases hk) (by kernel_rfl) (laid_met os))) ?_
  intro W base args ds gs before hval0 hW _ _ _ hL hsh _
  have hval : ∀ (j : Nat) t v, Tryd.f5.params[j]? = some t → args[j]? = some v → Value.okWide Tryd.prog W .any base t v := hval0
  have hW' := hW
  obtain ⟨p, q, hA, hV, rfl, hfz, hnd⟩ := hW
  obtain ⟨rfl, rfl⟩ := trodVars_none hV
  have hA0 : DataW.TrodAll enc Tryd.prog W 0 (fun _ => true) true Tryd.f5.params.toList args.toList ds p := hA
  rw [Tryd.params5] at hA0 hval
  obtain ⟨v0, vs0, d0, ds0, p0, q0, hargs, rfl, rfl, h0, r0⟩ := trodAll_cons hA0
  obtain ⟨rfl, rfl, rfl⟩ := trodAll_nil r0
  obtain rfl : args = #[v0] := by cases args; simp_all
  obtain ⟨cA, cc, c, rfl, chc, chm, cr, cb⟩ := open_code (hval 0 22 v0 rfl rfl) h0
  refine (walk W cA cc c cr cb chc chm (tenAt_of hL.tail.tail) (errAt_of hL.tail.tail.tail.tail) (cutAt_of hsh)).mono fun e W' ⟨he, bel⟩ => ?_
  subst he
  exact ⟨_, rfl, law_post (s := Rows.fnEntriesPutSpec) rfl (by kernel_rfl) (params_ok (by kernel_rfl)) hW' rfl rfl rfl bel⟩

theorem said : Rows.FnEntriesPutSaid :=
  OpenClaim.holds_of_cond 5 Tryd.f5 rfl rfl rfl rfl rfl rfl rfl ⟨rfl, rfl, rfl, rfl, rfl⟩ rfl rfl rfl rfl rfl (by kernel_rfl) Tryd.func5 (by kernel_rfl)
    (of_decide_eq_true (by kernel_rfl)) (by unfold Func.isWrapper; first | (rw [if_pos (by decide +kernel)]; kernel_rfl) | (rw [if_neg (by decide +kernel)]; exact ⟨rfl, rfl⟩))
    (fun os started H enc _ F => by rw [OpenClaim.pre_eq_preRow]; exact lifted os started H enc F)

theorem plain (f : FuncId) (fn : Func) (hf : Tryd.pinned.checked.prog.funcNamed "loop.example/poolfiles/laws.FnEntriesPut" = some f) (hfn : Tryd.pinned.checked.prog.funcs[f]? = some fn) :
    true = Tryd.pinned.checked.prog.looks [] ∧ ∀ (j : Nat) t, fn.params[j]? = some t → Tryd.pinned.checked.prog.wantsStandIn t = false := by
  obtain rfl : f = 5 := Option.some.inj ((show Tryd.prog.funcNamed "loop.example/poolfiles/laws.FnEntriesPut" = some 5 by kernel_rfl).symm.trans hf) |>.symm
  obtain rfl : fn = Tryd.f5 := (Option.some.inj (Tryd.func5.symm.trans hfn)).symm
  refine ⟨by kernel_rfl, fun j t ht => ?_⟩
  have hall : (Tryd.f5.params.toList.all fun t => !(Tryd.prog.wantsStandIn t)) = true := by kernel_rfl
  have := List.all_eq_true.1 hall t (Array.mem_toList_iff.2 (Array.mem_of_getElem? ht))
  show Tryd.prog.wantsStandIn t = false
  simpa using this

theorem proved : Rows.FnEntriesPutCardSaid :=
  Claim7.holds_tied_plain_at .later [] _ _ _ _ said (fun _ h => by cases h) (by kernel_rfl) (fun _ h => by cases h) fnEntriesPut_row_tie rfl ⟨rfl, rfl⟩ (by kernel_rfl) rfl plain (by kernel_rfl)

end Go.Proofs.YtjalboplilolkaaDoor.lawFnEntriesPut
