/- FnEntriesGet returns true for every code. The package-level variables that its row lists are tied; no condition of ours. -/
import Derived.Test.YtjalboplilolkaaDoorEntGet
import Derived.Test.YtjalboplilolkaaDoorDrawEnts3G
import Derived.Test.YtjalboplilolkaaDoorCardNum
namespace Go.Proofs.YtjalboplilolkaaDoor.lawFnEntriesGet
open Go.ChangeShapes Go.WideShapes Go.ChangeAt Go.RowKit
set_option linter.unusedVariables false
set_option linter.unusedSimpArgs false

set_option maxHeartbeats 4000000 in
theorem walk (w : World) (A : Option Addr) (cap : Nat) (zs : List Int) (h : RdT (encI .u8) 1 w A zs) (hb : ∀ z ∈ zs, 0 ≤ z ∧ z ≤ 255) (hc : zs.length ≤ cap) (hm : cap ≤ 9223372036854775807) (hT : TenAt w) (hE : ErrAt w) (hM : CutAt w) :
    Calls Tryd.prog 3 #[.slice A zs.length cap] w fun e w' => e = .returned (.bool true) ∧ Below w.heap.size w w' := by
  have HD := Lib.hid (drawEntriesGet_any w A cap zs h hb hc hm)
  have LB := Lib.hid (And.intro hT (And.intro hE hM))
  clear h hb hT hE hM
  generalize zs.length = n at HD hc ⊢
  by_cases hbig : 1048576 < n
  · clear HD
    go_enter Tryd.func3, Tryd.ntmps3
    go_wp2
    go_ret
    exact ⟨rfl, Below.refl _ _⟩
  go_enter Tryd.func3, Tryd.ntmps3
  go_wp2_with fail
  refine Calls.mono HD.out ?_
  rintro e w1 ⟨s, rfl, hsz, hB⟩
  have HB1 := Lib.hid hB
  clear hB HD
  go_wp2_with fail
  refine Calls.mono (entriesGet_any w1 s (LB.out.1.below HB1.out) (LB.out.2.1.below HB1.out) (LB.out.2.2.below HB1.out) (by omega)) ?_
  rintro e w2 ⟨v, l, B, rfl, hG, hO, hB⟩
  obtain ⟨A2, c2, rfl, hc2, hm2, _, hrd⟩ := hO.form
  have HG := Lib.hid hG
  have R2 := Lib.hid hrd
  have HB2 := Lib.hid (below_below HB1.out hB)
  clear hB hO hrd hG HB1
  go_wp2_with fail
  refine Calls.mono (specEntriesGet_any w2 s (by omega)) ?_
  rintro e w3 ⟨v, l', B', rfl, hG, hO, hB⟩
  obtain ⟨rfl, rfl⟩ := entG_one hG HG.out
  obtain ⟨A3, c3, rfl, hc3, hm3, _, hrd⟩ := hO.form
  have R3 := Lib.hid (R2.out.below hB)
  have Q3 := Lib.hid hrd
  have HB3 := Lib.hid (below_below HB2.out hB)
  clear hB hO hrd hG HB2 R2
  have eB : (B' == B') = true := by simp
  go_wp2_with fail
  refine Calls.mono (pfEntries_true w3 A2 A3 c2 c3 l' R3.out Q3.out hc2 hc3 hm2) ?_
  rintro e w4 ⟨rfl, hB⟩
  have R4 := Lib.hid (R3.out.below hB)
  have HB4 := Lib.hid (below_below HB3.out hB)
  clear hB R3 Q3 HB3
  cases B'
  · go_wp2_with fail
    go_ret
    exact ⟨rfl, HB4.out⟩
  · obtain ⟨hok, hent⟩ : entriesOkB l' = true ∧ entsL l' = s.data.toList := by
      rcases HG.out with ⟨_, h1, h2⟩ | ⟨h, _⟩
      · exact ⟨h1, h2⟩
      · cases h
    have hS : entsT l' = s := ofL_ext (by rw [entsT, ofL_data, hent])
    have hnz : ∀ e ∈ l', e.name.size ≤ 9223372036854775807 := fun e he => by
      have := nameB_size ((ent_ok hok).1 e he).1
      omega
    have HP := Lib.hid (entriesPut_any w4 A2 c2 l' (LB.out.1.below HB4.out) R4.out hc2 hm2 hnz)
    unfold PutE at HP
    rw [hok, hS] at HP
    simp only [if_true] at HP
    have e1 : (s.toList == s.toList) = true := by simp
    clear hok hent hS hnz HG
    go_wp2_with fail
    refine Calls.mono HP.out ?_
    rintro e w5 ⟨rfl, hB⟩
    have HB5 := Lib.hid (below_below HB4.out hB)
    clear hB
    go_wp2_with fail
    go_ret
    exact ⟨rfl, HB5.out⟩

theorem laid_met (os : Os) : laidMet Tryd.prog Rows.fnEntriesGetRow.laid ((World.laidAll Tryd.prog os Rows.fnEntriesGetRow.laid).forCall (fun _ _ => 0) ⟨#[], #[.slice none 0 0], []⟩).memory := laidMet_laidAll _ (by kernel_rfl) (by kernel_rfl)
theorem reads (os : Os) {H : Type} (enc : TypeId × Value → H) : ∃ places, DataW.whole enc Tryd.prog ((World.laidAll Tryd.prog os Rows.fnEntriesGetRow.laid).forCall (fun _ _ => 0) ⟨#[], #[.slice none 0 0], []⟩).memory Tryd.f3.params.toList Rows.fnEntriesGetSpec.vars false (#[.slice none 0 0] : Array Value).toList 8 = some ([.nil], [], places) :=
  ⟨[], by kernel_rfl⟩

set_option maxRecDepth 100000 in
theorem lifted (os : Os) (started : os.Started) (H : Type) (enc : TypeId × Value → H) (F : Stop.Interp) :
    ReturnsInHanded {} Tryd.checked os 3 .any ((OpenSpec.ofChange Rows.fnEntriesGetSpec).preRow enc Tryd.prog Tryd.f3 Rows.fnEntriesGetRow.domain false Rows.fnEntriesGetRow.laid) (((OpenSpec.ofChange Rows.fnEntriesGetSpec).at F).post enc Tryd.prog Tryd.f3 false true false false) := by
  obtain ⟨places, hx⟩ := reads os enc
  refine returnsInHanded_of_row (C := Tryd.checked) (s := OpenSpec.ofChange Rows.fnEntriesGetSpec) own started (by kernel_rfl) Tryd.func3
    (witness_row_at (enc := enc) (C := Tryd.checked) false (World.laidAll Tryd.prog os Rows.fnEntriesGetRow.laid) #[.slice none 0 0] (World.laidAll_os _ _ _) (by kernel_rfl) (by kernel_rfl) (by kernel_rfl)
      (OpenSpec.preRow_of_cond 8 hx (by kernel_rfl) (fun k hk => by cases hk) (by kernel_rfl) (laid_met os))) ?_
  intro W base args ds gs before hval0 hW _ _ _ hL hsh _
  have hval : ∀ (j : Nat) t v, Tryd.f3.params[j]? = some t → args[j]? = some v → Value.okWide Tryd.prog W .any base t v := hval0
  have hW' := hW
  obtain ⟨p, q, hA, hV, rfl, hfz, hnd⟩ := hW
  obtain ⟨rfl, rfl⟩ := trodVars_none hV
  have hA0 : DataW.TrodAll enc Tryd.prog W 0 (fun _ => true) true Tryd.f3.params.toList args.toList ds p := hA
  rw [Tryd.params3] at hA0 hval
  obtain ⟨v0, vs0, d0, ds0, p0, q0, hargs, rfl, rfl, h0, r0⟩ := trodAll_cons hA0
  obtain ⟨rfl, rfl, rfl⟩ := trodAll_nil r0
  obtain rfl : args = #[v0] := by cases args; simp_all
  obtain ⟨cA, cc, c, rfl, chc, chm, cr, cb⟩ := open_code (hval 0 22 v0 rfl rfl) h0
  refine (walk W cA cc c cr cb chc chm (tenAt_of hL.tail.tail) (errAt_of hL.tail.tail.tail.tail) (cutAt_of hsh)).mono fun e W' ⟨he, bel⟩ => ?_
  subst he
  exact ⟨_, rfl, law_post (s := Rows.fnEntriesGetSpec) rfl (by kernel_rfl) (params_ok (by kernel_rfl)) hW' rfl rfl rfl bel⟩

theorem said : Rows.FnEntriesGetSaid :=
  OpenClaim.holds_of_cond 3 Tryd.f3 rfl rfl rfl rfl rfl rfl rfl ⟨rfl, rfl, rfl, rfl, rfl⟩ rfl rfl rfl rfl rfl (by kernel_rfl) Tryd.func3 (by kernel_rfl)
    (of_decide_eq_true (by kernel_rfl)) (by unfold Func.isWrapper; first | (rw [if_pos (by decide +kernel)]; kernel_rfl) | (rw [if_neg (by decide +kernel)]; exact ⟨rfl, rfl⟩))
    (fun os started H enc _ F => by rw [OpenClaim.pre_eq_preRow]; exact lifted os started H enc F)

theorem plain (f : FuncId) (fn : Func) (hf : Tryd.pinned.checked.prog.funcNamed "loop.example/poolfiles/laws.FnEntriesGet" = some f) (hfn : Tryd.pinned.checked.prog.funcs[f]? = some fn) :
    true = Tryd.pinned.checked.prog.looks [] ∧ ∀ (j : Nat) t, fn.params[j]? = some t → Tryd.pinned.checked.prog.wantsStandIn t = false := by
  obtain rfl : f = 3 := Option.some.inj ((show Tryd.prog.funcNamed "loop.example/poolfiles/laws.FnEntriesGet" = some 3 by kernel_rfl).symm.trans hf) |>.symm
  obtain rfl : fn = Tryd.f3 := (Option.some.inj (Tryd.func3.symm.trans hfn)).symm
  refine ⟨by kernel_rfl, fun j t ht => ?_⟩
  have hall : (Tryd.f3.params.toList.all fun t => !(Tryd.prog.wantsStandIn t)) = true := by kernel_rfl
  have := List.all_eq_true.1 hall t (Array.mem_toList_iff.2 (Array.mem_of_getElem? ht))
  show Tryd.prog.wantsStandIn t = false
  simpa using this

theorem proved : Rows.FnEntriesGetCardSaid :=
  Claim7.holds_tied_plain_at .later [] _ _ _ _ said (fun _ h => by cases h) (by kernel_rfl) (fun _ h => by cases h) fnEntriesGet_row_tie rfl ⟨rfl, rfl⟩ (by kernel_rfl) rfl plain (by kernel_rfl)

end Go.Proofs.YtjalboplilolkaaDoor.lawFnEntriesGet
