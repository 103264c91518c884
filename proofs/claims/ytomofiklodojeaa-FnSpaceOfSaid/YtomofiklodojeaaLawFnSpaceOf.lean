/- FnSpaceOf returns true for every code. No condition. -/
import Derived.Test.YtomofiklodojeaaDrawSp
import Derived.Test.YtomofiklodojeaaSpTwo
import Derived.Test.YtomofiklodojeaaLaw
namespace Go.Proofs.Ytomofiklodojeaa.lawFnSpaceOf
open Go.ChangeShapes Go.WideShapes Go.ChangeAt Go.RowKit
set_option maxRecDepth 100000
set_option linter.unusedVariables false
set_option linter.unusedSimpArgs false

set_option maxHeartbeats 8000000 in
theorem walk (w : World) (A : Option Addr) (cap : Nat) (zs : List Int) (h : RdT (encI .u8) 1 w A zs) (hb : ∀ z ∈ zs, 0 ≤ z ∧ z ≤ 255) (hc : zs.length ≤ cap) (hm : cap ≤ 9223372036854775807) :
    Calls Try.prog 5 #[.slice A zs.length cap] w fun e w' => e = .returned (.bool true) ∧ Below w.heap.size w w' := by
  have HD := Lib.hid (drawSpaceOf_any w A cap zs h hb hc hm)
  clear h hb
  generalize zs.length = n at HD hc ⊢
  by_cases hbig : 1048576 < n
  · clear HD
    go_enter Try.func5, Try.ntmps5
    go_wp2
    go_ret
    exact ⟨rfl, Below.refl _ _⟩
  go_enter Try.func5, Try.ntmps5
  go_wp2_with fail
  refine Calls.mono HD.out ?_
  rintro e w1 ⟨v, l, rfl, hO, hln, hB⟩
  obtain ⟨A1, c1, rfl, hc1, hm1, _, hrd⟩ := hO.form
  have R1 := Lib.hid hrd
  have HB1 := Lib.hid hB
  clear hB HD hO hrd
  obtain ⟨rs, ls, hrl⟩ : ∃ rs ls, (spOf l).getD ([], []) = (rs, ls) := ⟨_, _, rfl⟩
  obtain ⟨ok, hok⟩ : ∃ ok, (spOf l).isSome = ok := ⟨_, rfl⟩
  have HRL := Lib.hid hrl
  have HOK := Lib.hid hok
  clear hrl hok
  go_wp2_with fail
  refine Calls.mono ((spaceOf_any w1 A1 c1 l R1.out hc1 hm1).mono fun e w' h => spPost_of HRL.out HOK.out h) ?_
  rintro e w2 ⟨Ax, Bx, cx, dx, rfl, hT, hcx, hdx, hmx, hnx, hB⟩
  have hBa := below_alloc (Below.refl w2.heap.size w2) (.cells #[.slice Ax rs.length cx, .slice Bx ls.length dx] 27)
  have X2 := Lib.hid (hT.below hBa)
  have BX2 := Lib.hid (box_new w2 #[.slice Ax rs.length cx, .slice Bx ls.length dx] 27)
  have R2 := Lib.hid ((R1.out.below hB).below hBa)
  have HB2 := Lib.hid (below_below (below_below HB1.out hB) hBa)
  clear hB hT hBa R1 HB1
  go_wp2_with fail
  refine Calls.mono ((specSpaceOf_any _ A1 c1 l R2.out hc1 hm1).mono fun e w' h => spPost_of HRL.out HOK.out h) ?_
  rintro e w3 ⟨Ay, By, cy, dy, rfl, hT, hcy, hdy, hmy, hny, hB⟩
  have hBa := below_alloc (Below.refl w3.heap.size w3) (.cells #[.slice Ay rs.length cy, .slice By ls.length dy] 27)
  have Y3 := Lib.hid (hT.below hBa)
  have BY3 := Lib.hid (box_new w3 #[.slice Ay rs.length cy, .slice By ls.length dy] 27)
  have X3 := Lib.hid ((X2.out.below hB).below hBa)
  have BX3 := Lib.hid ((BX2.out.below hB).below hBa)
  have R3 := Lib.hid ((R2.out.below hB).below hBa)
  have HB3 := Lib.hid (below_below (below_below HB2.out hB) hBa)
  have hs23 : w2.heap.size < w3.heap.size := by have := hB.size; rw [World.size_alloc] at this; omega
  have bx3 := BX3.out.cell
  have by3 := BY3.out.cell
  clear hB hT hBa X2 BX2 R2 HB2
  have eok : (ok == ok) = true := by simp
  go_wp2_with fail
  refine Calls.mono (pfSpace_true _ Ax Bx Ay By cx dx cy dy rs ls X3.out.rd.1 X3.out.rd.2 Y3.out.rd.1 Y3.out.rd.2 hcx hdx hcy hdy hmx hnx) ?_
  rintro e w4 ⟨rfl, hB⟩
  have X4 := Lib.hid (X3.out.below hB)
  have BX4 := Lib.hid (BX3.out.below hB)
  have R4 := Lib.hid (R3.out.below hB)
  have HB4 := Lib.hid (below_below HB3.out hB)
  clear hB X3 BX3 R3 HB3 Y3 BY3 bx3 by3
  cases ok
  · go_wp2_with fail
    go_ret
    exact ⟨rfl, HB4.out⟩
  obtain ⟨⟨rs', ls'⟩, hsp⟩ := Option.isSome_iff_exists.1 HOK.out
  obtain ⟨rfl, rfl⟩ : rs' = rs ∧ ls' = ls := by
    have := HRL.out
    rw [hsp] at this
    simp at this
    exact this
  have HK := Lib.hid hsp
  have HSB := Lib.hid (spOf_space hsp)
  clear hsp HRL HOK
  go_wp2_with fail
  go_loopw [9, 10] (fun x i wr => ∃ (k : Nat) (a : Int), k ≤ l.length ∧ i = .int .i64 k ∧ x = .int .i64 a ∧ Hid (nH (l.take k) = a) ∧ Hid (Below w4.heap.size w4 wr)) (fun _ i _ => l.length - (intOf i).toNat)
  case atStart => exact ⟨0, 0, Nat.zero_le _, rfl, rfl, Lib.hid (by simp [nH]), Lib.hid (Below.refl _ _)⟩
  case round =>
    obtain ⟨k, a, hk, rfl, rfl, HN, HW⟩ := hrel
    have ha := nH_in (l.take k)
    rw [HN.out] at ha
    obtain ⟨ha0, ha1⟩ := ha
    have hlk : (l.take k).length ≤ 8 := by rw [List.length_take]; omega
    by_cases hlt : k < l.length
    · obtain ⟨b, off, p, rfl, hb, he, p0, p1, p2, p3, p4⟩ := (R4.out.below HW.out).ptr hlt
      have HS := Lib.hid (nH_step he)
      have HH := Lib.hid (ptrHole_any p)
      generalize holeB p = hp at *
      obtain ⟨pa, pb, ps, pu, pl⟩ := p
      unfold Pt.v at HH
      dsimp only at p0 p1 p2 p3 p4 HH
      clear he
      go_wp2_with fail
      refine Calls.mono (HH.out _) ?_
      rintro e w5 ⟨rfl, hB5⟩
      have HW5 := Lib.hid (below_below HW.out hB5)
      clear hB5 HH
      cases hp
      · have HS2 := Lib.hid (show nH (l.take (k + 1)) = a + 1 by rw [HS.out, HN.out]; simp)
        go_wp2_with fail
        go_roundw
        case rel => exact ⟨k + 1, a + 1, by omega, by go_num, rfl, HS2, HW5⟩
        case measure => simp [intOf]; omega
      · have HS2 := Lib.hid (show nH (l.take (k + 1)) = a by rw [HS.out, HN.out]; simp)
        go_wp2_with fail
        go_roundw
        case rel => exact ⟨k + 1, a, by omega, by go_num, rfl, HS2, HW5⟩
        case measure => simp [intOf]; omega
    · obtain rfl : k = l.length := by omega
      have HN2 := Lib.hid (show nH l = a by have := HN.out; rwa [List.take_length] at this)
      have HSUM := Lib.hid ((spOf_sum HK.out).trans HN2.out)
      obtain ⟨wz, rfl⟩ : ∃ wz, wz = wr := ⟨wr, rfl⟩
      have X5 := Lib.hid (X4.out.below HW.out)
      have BX5 := Lib.hid (BX4.out.below HW.out)
      have R5 := Lib.hid (R4.out.below HW.out)
      have HB5 := Lib.hid (below_below HB4.out HW.out)
      have bx5 := BX5.out.cell
      clear HN HW X4 BX4 R4 HB4
      go_wp2_with fail
      refine Calls.mono (spaceOk_any _ Ax Bx cx dx _ _ X5.out.rd.1 X5.out.rd.2 hcx hdx hmx hnx) ?_
      rintro e w6 ⟨rfl, hB⟩
      rw [HSB.out]
      have X6 := Lib.hid (X5.out.below hB)
      have BX6 := Lib.hid (BX5.out.below hB)
      have R6 := Lib.hid (R5.out.below hB)
      have HB6 := Lib.hid (below_below HB5.out hB)
      have bx6 := BX6.out.cell
      have hlx6 := BX6.out.lt
      clear hB X5 BX5 R5 HB5 bx5
      obtain ⟨hl64, hbd⟩ := sum_bd HSB.out
      have HBD := Lib.hid hbd
      have HL64 := Lib.hid hl64
      clear hbd hl64
      go_wp2_with fail
      refine Calls.mono ((pfSum_any _ Ax cx _ X6.out.rd.1 hcx (by have := HL64.out; omega) HBD.out).mono fun e w' h => show e = .returned (.int .i64 a) ∧ w6 = w' from ⟨by rw [h.1, HSUM.out], h.2⟩) ?_
      rintro e w7 ⟨rfl, rfl⟩
      have ean : (a != a) = false := by simp
      rcases l with _ | ⟨p, r⟩
      · have ha00 : a = 0 := by have := HN2.out; simp [nH] at this; omega
        subst ha00
        go_wp2_with fail
        refine Calls.mono (spaceOk_any _ Ax Bx cx dx _ _ X6.out.rd.1 X6.out.rd.2 hcx hdx hmx hnx) ?_
        rintro e w8 ⟨rfl, hB⟩
        rw [HSB.out]
        have HB8 := Lib.hid (below_below HB6.out hB)
        clear hB
        go_wp2_with fail
        go_ret
        exact ⟨rfl, HB8.out⟩
      · have hln1 : ¬ (((p :: r).length : Nat) : Int) = 0 := by simp; omega
        have elen : ((((p :: r).length : Nat) : Int) == 0) = false := by simpa using hln1
        obtain ⟨b, off, p', rfl, hb, he, p0, p1, p2, p3, p4⟩ := R6.out.ptr (k := 0) (by simp)
        obtain rfl : p' = p := by simp at he; exact he.symm
        have RT := Lib.hid (show RdT encP 5 w6 (some ⟨b, off + 1 * 5, none⟩) r from R6.out.drop 1 rfl)
        obtain ⟨x2, hx2⟩ := spOf_ok.2 (spOf_tail (spOf_ok.1 ⟨_, HK.out⟩))
        obtain ⟨r2, l2⟩ := x2
        have HX2 := Lib.hid hx2
        have hsum2 := spOf_sum hx2
        have hbd2 := sum_bd (spOf_space hx2)
        have HBD2 := Lib.hid hbd2
        clear he hx2 hbd2
        have HNL := Lib.hid (show nH r = a - (if holeB p' = false then 1 else 0) by have := HN2.out; rw [nH] at this; omega)
        have hnr := nH_in r
        clear HN2 HSUM HK
        have RT0 := Lib.hid (fun (h : r.length ≤ 0) => show RdT encP 5 w6 (some ⟨b, off, none⟩) r from by rw [List.length_eq_zero_iff.1 (Nat.le_zero.1 h)]; exact RdT.none_)
        have hlr : r.length + 1 ≤ c1 := by simpa using hc1
        go_wp2_with fail
        all_goals
          refine Calls.mono ((spaceOf_any w6 _ _ r (by first | exact RT.out | exact RT0.out (by omega)) (by omega) (by omega)).mono fun e w' h => spPost_of (show (spOf r).getD ([], []) = (r2, l2) by simp [HX2.out]) (show (spOf r).isSome = true by simp [HX2.out]) h) ?_
          rintro e w8 ⟨Az, Bz, cz, dz, rfl, hT, hcz, hdz, hmz, hnz, hB⟩
          have hBa := below_alloc (Below.refl w8.heap.size w8) (.cells #[.slice Az r2.length cz, .slice Bz l2.length dz] 27)
          have Z8 := Lib.hid (hT.below hBa)
          have BZ8 := Lib.hid (box_new w8 #[.slice Az r2.length cz, .slice Bz l2.length dz] 27)
          have R8 := Lib.hid ((R6.out.below hB).below hBa)
          have HB8 := Lib.hid (below_below (below_below HB6.out hB) hBa)
          clear hB hT hBa X6 BX6 R6 HB6 bx6
          obtain ⟨b', off', p'', hAA, hb', he', p0', p1', p2', p3', p4'⟩ := R8.out.ptr (k := 0) (by simp)
          cases hAA
          obtain rfl : p'' = p' := by simp at he'; exact he'.symm
          have HH := Lib.hid (ptrHole_any p'')
          generalize holeB p'' = hp at *
          clear p0 p1 p2 p3 p4 he' RT
          obtain ⟨pa, pb, ps, pu, pl⟩ := p''
          unfold Pt.v at HH
          dsimp only at p0' p1' p2' p3' p4' HH
          simp only [Nat.zero_mul, Nat.add_zero] at p0' p1' p2' p3' p4'
          go_wp2_with fail
          refine Calls.mono (HH.out _) ?_
          rintro e w9 ⟨rfl, hB9⟩
          have Z9 := Lib.hid (Z8.out.below hB9)
          have BZ9 := Lib.hid (BZ8.out.below hB9)
          have HB9 := Lib.hid (below_below HB8.out hB9)
          have bz9 := BZ9.out.cell
          have bzl9 := BZ9.out.lt
          obtain ⟨hz64, hzbd⟩ := HBD2.out
          have PS := Lib.hid (pfSum_any w9 Az cz r2 Z9.out.rd.1 hcz (by omega) hzbd)
          rw [hsum2] at PS
          clear hB9 HH p0' p1' p2' p3' p4' hzbd hz64 hsum2
          cases hp
          · have HE := Lib.hid (show nH r = a - 1 by have := HNL.out; simpa using this)
            rw [HE.out] at PS
            have e1 : (a - 1 == a - 1) = true := by simp
            go_wp2_with fail
            refine Calls.mono PS.out ?_
            rintro e w10 ⟨rfl, rfl⟩
            go_wp2_with fail
            go_ret
            exact ⟨rfl, HB9.out⟩
          · have HE := Lib.hid (show nH r = a by have := HNL.out; simpa using this)
            rw [HE.out] at PS
            have e1 : (a == a - 0) = true := by simp
            go_wp2_with fail
            refine Calls.mono PS.out ?_
            rintro e w10 ⟨rfl, rfl⟩
            go_wp2_with fail
            go_ret
            exact ⟨rfl, HB9.out⟩

set_option maxRecDepth 100000 in
theorem lifted (os : Os) (started : os.Started) (H : Type) (enc : TypeId × Value → H) :
    ReturnsInHanded {} Try.checked os 5 .any (Rows.fnSpaceOfSpec.pre6 enc Try.prog Try.f5 Rows.fnSpaceOfRow.domain false) (Rows.fnSpaceOfSpec.post enc Try.prog Try.f5 false true false false) := by
  refine returnsInHanded_of_change (C := Try.checked) own started (by kernel_rfl) Try.func5
    (ChangeSpec.witness6 (enc := enc) (C := Try.checked) false ⟨#[], #[.slice none 0 0], []⟩ 8 (by kernel_rfl) (by kernel_rfl) (by kernel_rfl) (by kernel_rfl)) ?_
  intro W base args ds gs before hval0 hW hcnd _
  have hval : ∀ (j : Nat) t v, Try.f5.params[j]? = some t → args[j]? = some v → Value.okWide Try.prog W .any base t v := hval0
  have hW' := hW
  obtain ⟨p, q, hA, hV, rfl, hfz, hnd⟩ := hW
  obtain ⟨rfl, rfl⟩ := trodVars_none hV
  have hA0 : DataW.TrodAll enc Try.prog W 0 (fun _ => true) true Try.f5.params.toList args.toList ds p := hA
  rw [Try.params5] at hA0 hval
  obtain ⟨v0, vs0, d0, ds0, p0, q0, hargs, rfl, rfl, h0, r0⟩ := trodAll_cons hA0
  obtain ⟨rfl, rfl, rfl⟩ := trodAll_nil r0
  obtain rfl : args = #[v0] := by cases args; simp_all
  obtain ⟨cA, cc, c, rfl, chc, chm, cr, cb⟩ := open_code (hval 0 22 v0 rfl rfl) h0
  refine (walk W cA cc c cr cb chc chm).mono fun e W' ⟨he, bel⟩ => ?_
  subst he
  exact ⟨_, rfl, law_post rfl (by kernel_rfl) (params_ok (by kernel_rfl)) hW' rfl rfl rfl bel⟩

theorem proved : Rows.FnSpaceOfSaid :=
  OpenClaim.holds_of_wide 5 Try.f5 rfl rfl rfl rfl rfl rfl rfl ⟨rfl, rfl, rfl, rfl, rfl⟩ rfl rfl rfl rfl rfl (by kernel_rfl) Try.func5 (by kernel_rfl)
    (of_decide_eq_true (by kernel_rfl)) (by unfold Func.isWrapper; first | (rw [if_pos (by decide +kernel)]; kernel_rfl) | (rw [if_neg (by decide +kernel)]; exact ⟨rfl, rfl⟩))
    (fun os started H enc _ => lifted os started H enc)

end Go.Proofs.Ytomofiklodojeaa.lawFnSpaceOf
