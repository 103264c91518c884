/- FnExactNodeGet returns true for every text. The package-level variables that its row lists are tied; no condition of ours. -/
import Derived.Test.YthedmiippfpbnaaGreatDoorLawCard
import Derived.Test.YthedmiippfpbnaaGreatDoorNodeGet
import Derived.Test.YthedmiippfpbnaaGreatDoorCardNum
namespace Go.Proofs.YthedmiippfpbnaaGreatDoor.lawExactNodeGet
open Go.ChangeShapes Go.WideShapes Go.ChangeAt Go.RowKit
set_option maxRecDepth 100000
set_option linter.unusedVariables false
set_option linter.unusedSimpArgs false

set_option maxHeartbeats 2000000 in
theorem eqPtr_true (p : Pt) (w : World) : Calls Tryz.prog 36 #[p.v, p.v] w fun e w' => e = .returned (.bool true) ∧ Below w.heap.size w w' := by
  obtain ⟨a, b, c, d, e⟩ := p
  simp only [Pt.v]
  have HBa := Lib.hid (below_alloc (below_alloc (Below.refl w.heap.size w) (.cells #[.int .i64 a, .int .i64 b, .int .i64 c, .int .i64 d, .int .i64 e] 23)) (.cells #[.int .i64 a, .int .i64 b, .int .i64 c, .int .i64 d, .int .i64 e] 23))
  have q1 : (a == a) = true := by simp
  have q2 : (b == b) = true := by simp
  have q3 : (c == c) = true := by simp
  have q4 : (d == d) = true := by simp
  have q5 : (e == e) = true := by simp
  go_enter Tryz.func36, Tryz.ntmps36
  go_wp2_with fail
  go_ret
  exact ⟨rfl, HBa.out⟩
set_option maxHeartbeats 2000000 in
theorem eqTree_true (n : Nd) (w : World) : Calls Tryz.prog 16 #[.agg #[.int .i64 n.root.at_, .int .i64 n.root.birth, .int .i64 n.root.size, .int .i64 n.root.sum, .int .i64 n.root.level, .int .i64 n.depth, .int .i64 n.many], .agg #[.int .i64 n.root.at_, .int .i64 n.root.birth, .int .i64 n.root.size, .int .i64 n.root.sum, .int .i64 n.root.level, .int .i64 n.depth, .int .i64 n.many]] w fun e w' => e = .returned (.bool true) ∧ Below w.heap.size w w' := by
  have HP := Lib.hid (fun w => eqPtr_true n.root w)
  obtain ⟨k, li, s, ⟨a, b, c, d, e⟩, f, g⟩ := n
  simp only [Pt.v] at HP ⊢
  have HBa := Lib.hid (below_alloc (below_alloc (Below.refl w.heap.size w) (.cells #[.int .i64 a, .int .i64 b, .int .i64 c, .int .i64 d, .int .i64 e, .int .i64 f, .int .i64 g] 25)) (.cells #[.int .i64 a, .int .i64 b, .int .i64 c, .int .i64 d, .int .i64 e, .int .i64 f, .int .i64 g] 25))
  have BX1 := Lib.hid ((box_new w #[.int .i64 a, .int .i64 b, .int .i64 c, .int .i64 d, .int .i64 e, .int .i64 f, .int .i64 g] 25).alloc (.cells #[.int .i64 a, .int .i64 b, .int .i64 c, .int .i64 d, .int .i64 e, .int .i64 f, .int .i64 g] 25))
  have BX2 := Lib.hid (box_new (w.alloc (.cells #[.int .i64 a, .int .i64 b, .int .i64 c, .int .i64 d, .int .i64 e, .int .i64 f, .int .i64 g] 25)) #[.int .i64 a, .int .i64 b, .int .i64 c, .int .i64 d, .int .i64 e, .int .i64 f, .int .i64 g] 25)
  have q4 : (f == f) = true := by simp
  have q5 : (g == g) = true := by simp
  go_enter Tryz.func16, Tryz.ntmps16
  go_wp2_with fail
  refine Calls.mono (HP.out _) ?_
  rintro e w1 ⟨rfl, hB⟩
  have BX11 := Lib.hid (BX1.out.below hB)
  have BX21 := Lib.hid (BX2.out.below hB)
  have HB1 := Lib.hid (below_below HBa.out hB)
  have x1 := BX11.out.cell
  have x2 := BX21.out.cell
  have y1 := BX11.out.lt
  have y2 := BX21.out.lt
  simp only [World.size_alloc] at x2 y2
  clear hB
  go_wp2_with fail
  go_ret
  exact ⟨rfl, HB1.out⟩
set_option maxHeartbeats 2000000 in
theorem eqNode_true (n : Nd) (w : World) : Calls Tryz.prog 6 #[n.v, n.v] w fun e w' => e = .returned (.bool true) ∧ Below w.heap.size w w' := by
  have HP := Lib.hid (fun w => eqTree_true n w)
  obtain ⟨k, li, s, ⟨a, b, c, d, e⟩, f, g⟩ := n
  simp only [Nd.v] at HP ⊢
  have HBa := Lib.hid (below_alloc (below_alloc (Below.refl w.heap.size w) (.cells #[.int .i64 k, .int .i64 li, .int .i64 s, .int .i64 a, .int .i64 b, .int .i64 c, .int .i64 d, .int .i64 e, .int .i64 f, .int .i64 g] 27)) (.cells #[.int .i64 k, .int .i64 li, .int .i64 s, .int .i64 a, .int .i64 b, .int .i64 c, .int .i64 d, .int .i64 e, .int .i64 f, .int .i64 g] 27))
  have q1 : (k == k) = true := by simp
  have q2 : (li == li) = true := by simp
  have q3 : (s == s) = true := by simp
  go_enter Tryz.func6, Tryz.ntmps6
  go_wp2_with fail
  refine Calls.mono (HP.out _) ?_
  rintro e w1 ⟨rfl, hB⟩
  have HB1 := Lib.hid (below_below HBa.out hB)
  clear hB
  go_wp2_with fail
  go_ret
  exact ⟨rfl, HB1.out⟩

set_option maxHeartbeats 4000000 in
theorem walk (w : World) (s : ByteArray) (hM : CutAt w) (hT : TenAt w) (hE : ErrAt w) : Calls Tryz.prog 3 #[.string s] w fun e w' => e = .returned (.bool true) ∧ Below w.heap.size w w' := by
  by_cases hbig : 1048576 < s.size
  · go_enter Tryz.func3, Tryz.ntmps3
    go_wp2
    go_ret
    exact ⟨rfl, Below.refl _ _⟩
  have HS := Lib.hid (specNodeGet_any w s (by omega))
  have HI := Lib.hid (fun W (hB : Below w.heap.size w W) => nodeGet_any W s (hM.below hB) (hT.below hB) (hE.below hB) (by omega))
  have HE := Lib.hid (fun o w => eqNode_true o w)
  clear hM hT hE
  go_enter Tryz.func3, Tryz.ntmps3
  go_wp2_with fail
  refine Calls.mono HS.out ?_
  rintro e w1 ⟨o, B, rfl, hG, hB⟩
  have HG := Lib.hid hG
  have HEO := Lib.hid (HE.out o)
  obtain ⟨k, li, z, ⟨a, b, c, d, e⟩, f, g⟩ := o
  simp only [Nd.v] at HEO ⊢
  have hBa := below_alloc hB (.cells #[.int .i64 k, .int .i64 li, .int .i64 z, .int .i64 a, .int .i64 b, .int .i64 c, .int .i64 d, .int .i64 e, .int .i64 f, .int .i64 g] 27)
  have BX := Lib.hid (box_new w1 #[.int .i64 k, .int .i64 li, .int .i64 z, .int .i64 a, .int .i64 b, .int .i64 c, .int .i64 d, .int .i64 e, .int .i64 f, .int .i64 g] 27)
  have HB1 := Lib.hid hBa
  clear hG hB hBa HE HS
  go_wp2_with fail
  refine Calls.mono (HI.out _ HB1.out) ?_
  rintro e2 w2 ⟨o', B', rfl, hG, hB⟩
  obtain ⟨rfl, rfl⟩ := nodeG_one hG HG.out
  simp only [Nd.v]
  have BX2 := Lib.hid (BX.out.below hB)
  have HB2 := Lib.hid (below_alloc (below_below HB1.out hB) (.cells #[.int .i64 k, .int .i64 li, .int .i64 z, .int .i64 a, .int .i64 b, .int .i64 c, .int .i64 d, .int .i64 e, .int .i64 f, .int .i64 g] 27))
  have bx2 := BX2.out.cell
  have hl2 := BX2.out.lt
  have eB : (B' != B') = false := by simp
  clear hG hB BX HB1 HI
  go_wp2_with fail
  refine Calls.mono (HEO.out _) ?_
  rintro e3 w3 ⟨rfl, hB⟩
  have HB3 := Lib.hid (below_below HB2.out hB)
  clear hB
  go_wp2_with fail
  go_ret
  exact ⟨rfl, HB3.out⟩

theorem laid_met (os : Os) : laidMet Tryz.prog Rows.fnExactNodeGetRow.laid ((World.laidAll Tryz.prog os Rows.fnExactNodeGetRow.laid).forCall (fun _ _ => 0) ⟨#[], #[.string ⟨#[]⟩], []⟩).memory := laidMet_laidAll _ (by kernel_rfl) (by kernel_rfl)
theorem reads (os : Os) {H : Type} (enc : TypeId × Value → H) : ∃ places, DataW.whole enc Tryz.prog ((World.laidAll Tryz.prog os Rows.fnExactNodeGetRow.laid).forCall (fun _ _ => 0) ⟨#[], #[.string ⟨#[]⟩], []⟩).memory Tryz.f3.params.toList Rows.fnExactNodeGetSpec.vars false (#[.string ⟨#[]⟩] : Array Value).toList 8 = some ([.lit (.string [])], [], places) :=
  ⟨[], by kernel_rfl⟩

set_option maxRecDepth 100000 in
theorem lifted (os : Os) (started : os.Started) (H : Type) (enc : TypeId × Value → H) (F : Stop.Interp) :
    ReturnsInHanded {} Tryz.checked os 3 .any ((OpenSpec.ofChange Rows.fnExactNodeGetSpec).preRow enc Tryz.prog Tryz.f3 Rows.fnExactNodeGetRow.domain false Rows.fnExactNodeGetRow.laid) (((OpenSpec.ofChange Rows.fnExactNodeGetSpec).at F).post enc Tryz.prog Tryz.f3 false true false false) := by
  obtain ⟨places, hx⟩ := reads os enc
  refine returnsInHanded_of_row (C := Tryz.checked) (s := OpenSpec.ofChange Rows.fnExactNodeGetSpec) own started (by kernel_rfl) Tryz.func3
    (witness_row_at (enc := enc) (C := Tryz.checked) false (World.laidAll Tryz.prog os Rows.fnExactNodeGetRow.laid) #[.string ⟨#[]⟩] (World.laidAll_os _ _ _) (by kernel_rfl) (by kernel_rfl) (by kernel_rfl)
      (OpenSpec.preRow_of_cond 8 hx (by kernel_rfl) (fun k hk => by cases hk) (by kernel_rfl) (laid_met os))) ?_
  intro W base args ds gs before hval0 hW _ _ _ hL hsh _
  have hval : ∀ (j : Nat) t v, Tryz.f3.params[j]? = some t → args[j]? = some v → Value.okWide Tryz.prog W .any base t v := hval0
  have hW' := hW
  obtain ⟨p, q, hA, hV, rfl, hfz, hnd⟩ := hW
  obtain ⟨rfl, rfl⟩ := trodVars_none hV
  have hA0 : DataW.TrodAll enc Tryz.prog W 0 (fun _ => true) true Tryz.f3.params.toList args.toList ds p := hA
  rw [Tryz.params3] at hA0 hval
  obtain ⟨v0, vs0, d0, ds0, p0, q0, hargs, rfl, rfl, h0, r0⟩ := trodAll_cons hA0
  obtain ⟨rfl, rfl, rfl⟩ := trodAll_nil r0
  obtain rfl : args = #[v0] := by cases args; simp_all
  obtain ⟨s, rfl, _, _, hs0⟩ := Go.ChangeMaps.open_string Tryz.underlying9 (hval 0 9 v0 rfl rfl) h0
  have hs : s.size ≤ 9223372036854775807 := by unfold maxLen at hs0; omega
  refine (walk W s (cutAt_of hsh) (tenAt_of hL.tail.tail) (errAt_of hL.tail.tail.tail.tail.tail)).mono fun e W' ⟨he, bel⟩ => ?_
  subst he
  exact ⟨_, rfl, law_post (s := Rows.fnExactNodeGetSpec) rfl (by kernel_rfl) (params_ok (by kernel_rfl)) hW' rfl rfl rfl bel⟩

theorem said : Rows.FnExactNodeGetSaid :=
  OpenClaim.holds_of_cond 3 Tryz.f3 rfl rfl rfl rfl rfl rfl rfl ⟨rfl, rfl, rfl, rfl, rfl⟩ rfl rfl rfl rfl rfl (by kernel_rfl) Tryz.func3 (by kernel_rfl)
    (of_decide_eq_true (by kernel_rfl)) (by unfold Func.isWrapper; first | (rw [if_pos (by decide +kernel)]; kernel_rfl) | (rw [if_neg (by decide +kernel)]; exact ⟨rfl, rfl⟩))
    (fun os started H enc _ F => by rw [OpenClaim.pre_eq_preRow]; exact lifted os started H enc F)

theorem plain (f : FuncId) (fn : Func) (hf : Tryz.pinned.checked.prog.funcNamed "loop.example/poolfiles/laws.FnExactNodeGet" = some f) (hfn : Tryz.pinned.checked.prog.funcs[f]? = some fn) :
    true = Tryz.pinned.checked.prog.looks [] ∧ ∀ (j : Nat) t, fn.params[j]? = some t → Tryz.pinned.checked.prog.wantsStandIn t = false := by
  obtain rfl : f = 3 := Option.some.inj ((show Tryz.prog.funcNamed "loop.example/poolfiles/laws.FnExactNodeGet" = some 3 by kernel_rfl).symm.trans hf) |>.symm
  obtain rfl : fn = Tryz.f3 := (Option.some.inj (Tryz.func3.symm.trans hfn)).symm
  refine ⟨by kernel_rfl, fun j t ht => ?_⟩
  have hall : (Tryz.f3.params.toList.all fun t => !(Tryz.prog.wantsStandIn t)) = true := by kernel_rfl
  have := List.all_eq_true.1 hall t (Array.mem_toList_iff.2 (Array.mem_of_getElem? ht))
  show Tryz.prog.wantsStandIn t = false
  simpa using this

theorem proved : Rows.FnExactNodeGetCardSaid :=
  Claim7.holds_tied_plain_at .later [] _ _ _ _ said (fun _ h => by cases h) (by kernel_rfl) (fun _ h => by cases h) fnExactNodeGet_row_tie rfl ⟨rfl, rfl⟩ (by kernel_rfl) rfl plain (by kernel_rfl)

end Go.Proofs.YthedmiippfpbnaaGreatDoor.lawExactNodeGet
