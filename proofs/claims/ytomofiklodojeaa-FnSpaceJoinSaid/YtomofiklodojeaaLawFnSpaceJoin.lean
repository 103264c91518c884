/- FnSpaceJoin returns true for every two codes. No condition. -/
import Derived.Test.YtomofiklodojeaaDrawSp
import Derived.Test.YtomofiklodojeaaSpTwo
import Derived.Test.YtomofiklodojeaaLaw
namespace Go.Proofs.Ytomofiklodojeaa.lawFnSpaceJoin
open Go.ChangeShapes Go.WideShapes Go.ChangeAt Go.RowKit
set_option maxRecDepth 100000
set_option linter.unusedVariables false
set_option linter.unusedSimpArgs false

set_option maxHeartbeats 8000000 in
theorem walk (w : World) (A A' : Option Addr) (cap cap' : Nat) (zs ys : List Int) (h : RdT (encI .u8) 1 w A zs) (h' : RdT (encI .u8) 1 w A' ys) (hb : ∀ z ∈ zs, 0 ≤ z ∧ z ≤ 255) (hb' : ∀ z ∈ ys, 0 ≤ z ∧ z ≤ 255) (hc : zs.length ≤ cap) (hc' : ys.length ≤ cap') (hm : cap ≤ 9223372036854775807) (hm' : cap' ≤ 9223372036854775807) :
    Calls Try.prog 3 #[.slice A zs.length cap, .slice A' ys.length cap'] w fun e w' => e = .returned (.bool true) ∧ Below w.heap.size w w' := by
  have HD := Lib.hid (drawSpaceOf_any w A cap zs h hb hc hm)
  have HD' := Lib.hid (fun w1 (hB : Below w.heap.size w w1) => drawSpaceOf_any w1 A' cap' ys (h'.below hB) hb' hc' hm')
  clear h hb h' hb'
  generalize zs.length = n at HD hc ⊢
  generalize ys.length = n' at HD' hc' ⊢
  by_cases hbig : 1048576 < n
  · clear HD HD'
    go_enter Try.func3, Try.ntmps3
    go_wp2
    go_ret
    exact ⟨rfl, Below.refl _ _⟩
  by_cases hbig' : 1048576 < n'
  · clear HD HD'
    go_enter Try.func3, Try.ntmps3
    go_wp2
    go_ret
    exact ⟨rfl, Below.refl _ _⟩
  go_enter Try.func3, Try.ntmps3
  go_wp2_with fail
  refine Calls.mono HD.out ?_
  rintro e w1 ⟨v, a, rfl, hO, hla, hB⟩
  obtain ⟨A1, c1, rfl, hc1, hm1, _, hrd⟩ := hO.form
  have Ra1 := Lib.hid hrd
  have HB1 := Lib.hid hB
  clear hB HD hO hrd
  go_wp2_with fail
  refine Calls.mono (HD'.out w1 HB1.out) ?_
  rintro e w2 ⟨v, b, rfl, hO, hlb, hB⟩
  obtain ⟨A2, c2, rfl, hc2, hm2, _, hrd⟩ := hO.form
  have Rb2 := Lib.hid hrd
  have Ra2 := Lib.hid (Ra1.out.below hB)
  have HB2 := Lib.hid (below_below HB1.out hB)
  clear hB HD' hO hrd Ra1 HB1
  -- counting a
  obtain ⟨r1, l1, hrl⟩ : ∃ rs ls, (spOf a).getD ([], []) = (rs, ls) := ⟨_, _, rfl⟩
  obtain ⟨ok1, hok⟩ : ∃ ok, (spOf a).isSome = ok := ⟨_, rfl⟩
  have HRL1 := Lib.hid hrl
  have HOK1 := Lib.hid hok
  clear hrl hok
  go_wp2_with fail
  refine Calls.mono ((spaceOf_any w2 A1 c1 a Ra2.out hc1 hm1).mono fun e w' h => spPost_of HRL1.out HOK1.out h) ?_
  rintro e w3 ⟨Ax, Bx, cx, dx, rfl, hT, hcx, hdx, hmx, hnx, hB⟩
  have hBa := below_alloc (Below.refl w3.heap.size w3) (.cells #[.slice Ax r1.length cx, .slice Bx l1.length dx] 27)
  have X3 := Lib.hid (hT.below hBa)
  have BX3 := Lib.hid (box_new w3 #[.slice Ax r1.length cx, .slice Bx l1.length dx] 27)
  have Ra3 := Lib.hid ((Ra2.out.below hB).below hBa)
  have Rb3 := Lib.hid ((Rb2.out.below hB).below hBa)
  have HB3 := Lib.hid (below_below (below_below HB2.out hB) hBa)
  clear hB hT hBa Ra2 Rb2 HB2
  -- counting b
  obtain ⟨r2, l2, hrl⟩ : ∃ rs ls, (spOf b).getD ([], []) = (rs, ls) := ⟨_, _, rfl⟩
  obtain ⟨ok2, hok⟩ : ∃ ok, (spOf b).isSome = ok := ⟨_, rfl⟩
  have HRL2 := Lib.hid hrl
  have HOK2 := Lib.hid hok
  clear hrl hok
  go_wp2_with fail
  refine Calls.mono ((spaceOf_any _ A2 c2 b Rb3.out hc2 hm2).mono fun e w' h => spPost_of HRL2.out HOK2.out h) ?_
  rintro e w4 ⟨Ay, By, cy, dy, rfl, hT, hcy, hdy, hmy, hny, hB⟩
  have hBa := below_alloc (Below.refl w4.heap.size w4) (.cells #[.slice Ay r2.length cy, .slice By l2.length dy] 27)
  have Y4 := Lib.hid (hT.below hBa)
  have BY4 := Lib.hid (box_new w4 #[.slice Ay r2.length cy, .slice By l2.length dy] 27)
  have X4 := Lib.hid ((X3.out.below hB).below hBa)
  have BX4 := Lib.hid ((BX3.out.below hB).below hBa)
  have Ra4 := Lib.hid ((Ra3.out.below hB).below hBa)
  have Rb4 := Lib.hid ((Rb3.out.below hB).below hBa)
  have HB4 := Lib.hid (below_below (below_below HB3.out hB) hBa)
  have hs34 : w3.heap.size < w4.heap.size := by have := hB.size; rw [World.size_alloc] at this; omega
  clear hB hT hBa Ra3 Rb3 HB3 X3 BX3
  -- both lists
  have K1 := Lib.hid (show (([] : List Pt).length + a.length) * 40 ≤ 140737488355328 ∧ ([] : List Pt).length + a.length ≤ maxLen from ⟨by simp; omega, by simp [maxLen]; omega⟩)
  have K2 := Lib.hid (show (a.length + b.length) * 40 ≤ 140737488355328 ∧ a.length + b.length ≤ maxLen from ⟨by omega, by unfold maxLen; omega⟩)
  have BE := Lib.hid (fun (W : World) => below_alloc (Below.refl W.heap.size W) (.cells #[] 41))
  have EM := Lib.hid (fun (W : World) => (Own.empty (enc := encP) (sz := 5) (T := 41) (w := W) (Nat.le_refl W.heap.size)))
  obtain ⟨W5, hW5⟩ : ∃ W5, w4.alloc (.cells #[.slice Ay r2.length cy, .slice By l2.length dy] 27) = W5 := ⟨_, rfl⟩
  have hs45 : w4.heap.size < W5.heap.size := by rw [← hW5, World.size_alloc]; omega
  rw [hW5] at Y4 BY4 X4 BX4 Ra4 Rb4 HB4
  go_wp2_with (first
    | (have _g := ownA; at_builtin; clear _g; refine wpList_app (ys := b) elP rfl _ _ rfl (by rfl) ownA (by rfl) rfl (Rb4.out.below BA.out) oneP K2.out.1 K2.out.2 BA.out.size ?_; intro v6 w6 ownB grB atB; have BB := Lib.hid (below_grown BA.out ownA grB); clear grB atB)
    | (at_builtin; refine wpList_app (ys := a) elP rfl _ _ rfl (by rfl) (EM.out W5) (by rfl) rfl (Ra4.out.below (BE.out W5)) oneP K1.out.1 K1.out.2 (BE.out W5).size ?_; intro v5 w5 ownA grA atA; rw [List.nil_append] at ownA; have BA := Lib.hid (below_grown (BE.out W5) (EM.out W5) grA); clear grA atA))
  obtain ⟨A6, c6, rfl, hc6, hm6, _, hr6⟩ := ownB.form
  have R6 := Lib.hid hr6
  have X6 := Lib.hid (X4.out.below BB.out)
  have BX6 := Lib.hid (BX4.out.below BB.out)
  have Y6 := Lib.hid (Y4.out.below BB.out)
  have BY6 := Lib.hid (BY4.out.below BB.out)
  have Ra6 := Lib.hid (Ra4.out.below BB.out)
  have Rb6 := Lib.hid (Rb4.out.below BB.out)
  have HB6 := Lib.hid (below_below HB4.out BB.out)
  have hs46 : w4.heap.size < w6.heap.size := by have := BB.out.size; omega
  clear ownA ownB BA BB hr6 X4 BX4 Y4 BY4 Ra4 Rb4 HB4 hW5 hs45
  obtain ⟨r3, l3, hrl⟩ : ∃ rs ls, (spOf (a ++ b)).getD ([], []) = (rs, ls) := ⟨_, _, rfl⟩
  obtain ⟨ok3, hok⟩ : ∃ ok, (spOf (a ++ b)).isSome = ok := ⟨_, rfl⟩
  have HRL3 := Lib.hid hrl
  have HOK3 := Lib.hid hok
  clear hrl hok
  refine Calls.mono ((spaceOf_any w6 A6 c6 (a ++ b) R6.out hc6 hm6).mono fun e w' h => spPost_of HRL3.out HOK3.out h) ?_
  rintro e w7 ⟨Az, Bz, cz, dz, rfl, hT, hcz, hdz, hmz, hnz, hB⟩
  have hBa := below_alloc (Below.refl w7.heap.size w7) (.cells #[.slice Az r3.length cz, .slice Bz l3.length dz] 27)
  have Z7 := Lib.hid (hT.below hBa)
  have BZ7 := Lib.hid (box_new w7 #[.slice Az r3.length cz, .slice Bz l3.length dz] 27)
  have X7 := Lib.hid ((X6.out.below hB).below hBa)
  have BX7 := Lib.hid ((BX6.out.below hB).below hBa)
  have Y7 := Lib.hid ((Y6.out.below hB).below hBa)
  have BY7 := Lib.hid ((BY6.out.below hB).below hBa)
  have Ra7 := Lib.hid ((Ra6.out.below hB).below hBa)
  have Rb7 := Lib.hid ((Rb6.out.below hB).below hBa)
  have HB7 := Lib.hid (below_below (below_below HB6.out hB) hBa)
  have hs67 : w6.heap.size ≤ w7.heap.size := hB.size
  clear hB hT hBa R6 X6 BX6 Y6 BY6 Ra6 Rb6 HB6 hc6 hm6
  obtain ⟨W8, hW8⟩ : ∃ W8, w7.alloc (.cells #[.slice Az r3.length cz, .slice Bz l3.length dz] 27) = W8 := ⟨_, rfl⟩
  have hs78 : w7.heap.size < W8.heap.size := by rw [← hW8, World.size_alloc]; omega
  rw [hW8] at Z7 BZ7 X7 BX7 Y7 BY7 Ra7 Rb7 HB7
  go_wp2_with (first
    | (have _g := ownC; at_builtin; clear _g; refine wpList_app (ys := b) elP rfl _ _ rfl (by rfl) ownC (by rfl) rfl (Rb7.out.below BA.out) oneP K2.out.1 K2.out.2 BA.out.size ?_; intro v9 w9 ownD grB atB; have BB := Lib.hid (below_grown BA.out ownC grB); clear grB atB)
    | (at_builtin; refine wpList_app (ys := a) elP rfl _ _ rfl (by rfl) (EM.out W8) (by rfl) rfl (Ra7.out.below (BE.out W8)) oneP K1.out.1 K1.out.2 (BE.out W8).size ?_; intro v8 w8 ownC grA atA; rw [List.nil_append] at ownC; have BA := Lib.hid (below_grown (BE.out W8) (EM.out W8) grA); clear grA atA))
  obtain ⟨A9, c9, rfl, hc9, hm9, _, hr9⟩ := ownD.form
  have R9 := Lib.hid hr9
  have X9 := Lib.hid (X7.out.below BB.out)
  have BX9 := Lib.hid (BX7.out.below BB.out)
  have Y9 := Lib.hid (Y7.out.below BB.out)
  have BY9 := Lib.hid (BY7.out.below BB.out)
  have Z9 := Lib.hid (Z7.out.below BB.out)
  have BZ9 := Lib.hid (BZ7.out.below BB.out)
  have HB9 := Lib.hid (below_below HB7.out BB.out)
  have hs79 : w7.heap.size < w9.heap.size := by have := BB.out.size; omega
  clear ownC ownD BA BB hr9 X7 BX7 Y7 BY7 Z7 BZ7 Ra7 Rb7 HB7 hW8 hs78 EM BE K1 K2
  refine Calls.mono ((specSpaceOf_any w9 A9 c9 (a ++ b) R9.out hc9 hm9).mono fun e w' h => spPost_of HRL3.out HOK3.out h) ?_
  rintro e w10 ⟨At, Bt, ct, dt, rfl, hT, hct, hdt, hmt, hnt, hB⟩
  have hBa := below_alloc (Below.refl w10.heap.size w10) (.cells #[.slice At r3.length ct, .slice Bt l3.length dt] 27)
  have T10 := Lib.hid (hT.below hBa)
  have BT10 := Lib.hid (box_new w10 #[.slice At r3.length ct, .slice Bt l3.length dt] 27)
  have X10 := Lib.hid ((X9.out.below hB).below hBa)
  have BX10 := Lib.hid ((BX9.out.below hB).below hBa)
  have Y10 := Lib.hid ((Y9.out.below hB).below hBa)
  have BY10 := Lib.hid ((BY9.out.below hB).below hBa)
  have Z10 := Lib.hid ((Z9.out.below hB).below hBa)
  have BZ10 := Lib.hid ((BZ9.out.below hB).below hBa)
  have HB10 := Lib.hid (below_below (below_below HB9.out hB) hBa)
  have hs90 : w9.heap.size ≤ w10.heap.size := hB.size
  have bz10 := BZ10.out.cell
  have bt10 := BT10.out.cell
  have hlz : w7.heap.size < w10.heap.size := by omega
  clear hB hT hBa R9 X9 BX9 Y9 BY9 Z9 BZ9 HB9 hc9 hm9
  have eok : (ok3 != ok3) = false := by simp
  have eok2 : (ok3 == ok3) = true := by simp
  go_wp2_with fail
  refine Calls.mono (pfSpace_true _ Az Bz At Bt cz dz ct dt r3 l3 Z10.out.rd.1 Z10.out.rd.2 T10.out.rd.1 T10.out.rd.2 hcz hdz hct hdt hmz hnz) ?_
  rintro e w11 ⟨rfl, hB⟩
  have X11 := Lib.hid (X10.out.below hB)
  have BX11 := Lib.hid (BX10.out.below hB)
  have Y11 := Lib.hid (Y10.out.below hB)
  have BY11 := Lib.hid (BY10.out.below hB)
  have Z11 := Lib.hid (Z10.out.below hB)
  have BZ11 := Lib.hid (BZ10.out.below hB)
  have T11 := Lib.hid (T10.out.below hB)
  have BT11 := Lib.hid (BT10.out.below hB)
  have HB11 := Lib.hid (below_below HB10.out hB)
  have bz11 := BZ11.out.cell
  have bt11 := BT11.out.cell
  have hs101 : w10.heap.size < w11.heap.size := BT11.out.lt
  clear hB X10 BX10 Y10 BY10 Z10 BZ10 T10 BT10 HB10 bz10 bt10
  cases ok3
  · go_wp2_with fail
    refine Calls.mono (pfSpace_true _ Az Bz At Bt cz dz ct dt r3 l3 Z11.out.rd.1 Z11.out.rd.2 T11.out.rd.1 T11.out.rd.2 hcz hdz hct hdt hmz hnz) ?_
    rintro e w12 ⟨rfl, hB⟩
    have HB12 := Lib.hid (below_below HB11.out hB)
    clear hB
    go_wp2_with fail
    go_ret
    exact ⟨rfl, HB12.out⟩
  clear bz11 bt11 T11 BT11
  obtain ⟨⟨r3', l3'⟩, hsp⟩ := Option.isSome_iff_exists.1 HOK3.out
  obtain ⟨rfl, rfl⟩ : r3' = r3 ∧ l3' = l3 := by
    have := HRL3.out
    rw [hsp] at this
    simp at this
    exact this
  have hk := spOf_ok.1 ⟨_, hsp⟩
  obtain ⟨⟨r1', l1'⟩, hs1⟩ := spOf_ok.2 (spOf_left hk)
  obtain ⟨⟨r2', l2'⟩, hs2⟩ := spOf_ok.2 (spOf_right hk)
  obtain ⟨rfl, rfl⟩ : r1' = r1 ∧ l1' = l1 := by
    have := HRL1.out
    rw [hs1] at this
    simp at this
    exact this
  obtain ⟨rfl, rfl⟩ : r2' = r2 ∧ l2' = l2 := by
    have := HRL2.out
    rw [hs2] at this
    simp at this
    exact this
  obtain rfl : true = ok1 := by have := HOK1.out; rw [hs1] at this; simpa using this
  obtain rfl : true = ok2 := by have := HOK2.out; rw [hs2] at this; simpa using this
  have HJ := Lib.hid (spOf_join hs1 hs2 hsp)
  have V1 := Lib.hid (spOf_val hs1)
  have V2 := Lib.hid (spOf_val hs2)
  have V3 := Lib.hid (spOf_val hsp)
  have S1 := Lib.hid (spOf_space hs1)
  have S2 := Lib.hid (spOf_space hs2)
  clear hsp hs1 hs2 hk HRL1 HRL2 HRL3 HOK1 HOK2 HOK3
  have bx11 := BX11.out.cell
  have by11 := BY11.out.cell
  have bz11 := BZ11.out.cell
  have hlx : w3.heap.size < w11.heap.size := BX11.out.lt
  have hly : w4.heap.size < w11.heap.size := BY11.out.lt
  have hlz2 : w7.heap.size < w11.heap.size := BZ11.out.lt
  go_wp2_with fail
  go_loopw [15] (fun i wr => ∃ (k : Nat), k ≤ 64 ∧ i = .int .i64 k ∧ Hid (Below w11.heap.size w11 wr)) (fun i _ => 64 - (intOf i).toNat)
  case atStart => exact ⟨0, Nat.zero_le _, rfl, Lib.hid (Below.refl _ _)⟩
  case round =>
    obtain ⟨k, hk, rfl, HW⟩ := hrel
    obtain ⟨wz, rfl⟩ : ∃ wz, wz = wr := ⟨wr, rfl⟩
    have bx := (BX11.out.below HW.out).cell
    have by_ := (BY11.out.below HW.out).cell
    have bz := (BZ11.out.below HW.out).cell
    clear bx11 by11 bz11
    by_cases hlt : k < 64
    · obtain ⟨p1, o1, rfl, hp1, q1⟩ := num_at (k := k) (X11.out.below HW.out).rd.1 (by have := V1.out.1; omega)
      obtain ⟨p2, o2, rfl, hp2, q2⟩ := num_at (k := k) (X11.out.below HW.out).rd.2 (by have := V1.out.2.1; omega)
      obtain ⟨p3, o3, rfl, hp3, q3⟩ := num_at (k := k) (Y11.out.below HW.out).rd.1 (by have := V2.out.1; omega)
      obtain ⟨p4, o4, rfl, hp4, q4⟩ := num_at (k := k) (Y11.out.below HW.out).rd.2 (by have := V2.out.2.1; omega)
      obtain ⟨p5, o5, rfl, hp5, q5⟩ := num_at (k := k) (Z11.out.below HW.out).rd.1 (by have := V3.out.1; omega)
      obtain ⟨p6, o6, rfl, hp6, q6⟩ := num_at (k := k) (Z11.out.below HW.out).rd.2 (by have := V3.out.2.1; omega)
      have hk1 : k < r1'.length := by have := V1.out.1; omega
      have hk2 : k < l1'.length := by have := V1.out.2.1; omega
      have hk3 : k < r2'.length := by have := V2.out.1; omega
      have hk4 : k < l2'.length := by have := V2.out.2.1; omega
      have hk5 : k < r3'.length := by have := V3.out.1; omega
      have hk6 : k < l3'.length := by have := V3.out.2.1; omega
      have j1 := (HJ.out k).1
      have j2 := (HJ.out k).2
      have d1 := (sum_bd S1.out).2 k
      have d2 := (sum_bd S2.out).2 k
      rw [j1] at q5
      rw [j2] at q6
      clear j1 j2
      generalize r1'.getD k 0 = a1 at *
      generalize r2'.getD k 0 = a2 at *
      generalize l1'.getD k 0 = a3 at *
      generalize l2'.getD k 0 = a4 at *
      have e1 : (a1 + a2 != a1 + a2) = false := by simp
      have e2 : (max a3 a4 != max a3 a4) = false := by simp
      have hwrap : IntKind.i64.wrap (a1 + a2) = a1 + a2 := IntWalk.i64_in _ (by omega)
      go_wp2_with fail
      have bx0 := bx 0
      have bx1 := bx 1
      have by0 := by_ 0
      have by1 := by_ 1
      have bz0 := bz 0
      have bz1 := bz 1
      simp only [List.getElem?_toArray, List.getElem?_cons_zero, List.getElem?_cons_succ] at bx0 bx1 by0 by1 bz0 bz1
      clear bx by_ bz
      have hzx : w3.heap.size < wz.heap.size := (BX11.out.below HW.out).lt
      have hzy : w4.heap.size < wz.heap.size := (BY11.out.below HW.out).lt
      have hzz : w7.heap.size < wz.heap.size := (BZ11.out.below HW.out).lt
      refine wp_quiet_b (by kernel_rfl) (by kernel_rfl) (fun hgrow => ?_)
      repeat (go_big_quiet_step (fail))
      refine wpQuiet_nil ?_
      intro w12 hww12
      replace hww12 := below_of_regrown hww12
      clear hgrow
      go_wp2_with fail
      go_roundw
      case rel => exact ⟨k + 1, by omega, by go_num, Lib.hid (by have := HW.out; (repeat (first | assumption | exact Below.refl _ _ | refine below_alloc ?_ _ | refine Below.drew ?_ | refine below_drewN ?_ _ | refine below_set ?_ (by first | exact Nat.le_refl _ | omega | (simp; done) | (simp; omega)) _ | refine below_kp ?_ (by assumption) (by simp) | refine below_below ?_ (by assumption))))⟩
      case measure => simp [intOf]; omega
    · obtain rfl : k = 64 := by omega
      go_wp2_with fail
      go_ret
      exact ⟨rfl, below_below HB11.out HW.out⟩

set_option maxRecDepth 100000 in
theorem lifted (os : Os) (started : os.Started) (H : Type) (enc : TypeId × Value → H) :
    ReturnsInHanded {} Try.checked os 3 .any (Rows.fnSpaceJoinSpec.pre6 enc Try.prog Try.f3 Rows.fnSpaceJoinRow.domain false) (Rows.fnSpaceJoinSpec.post enc Try.prog Try.f3 false true false false) := by
  refine returnsInHanded_of_change (C := Try.checked) own started (by kernel_rfl) Try.func3
    (ChangeSpec.witness6 (enc := enc) (C := Try.checked) false ⟨#[], #[.slice none 0 0, .slice none 0 0], []⟩ 8 (by kernel_rfl) (by kernel_rfl) (by kernel_rfl) (by kernel_rfl)) ?_
  intro W base args ds gs before hval0 hW hcnd _
  have hval : ∀ (j : Nat) t v, Try.f3.params[j]? = some t → args[j]? = some v → Value.okWide Try.prog W .any base t v := hval0
  have hW' := hW
  obtain ⟨p, q, hA, hV, rfl, hfz, hnd⟩ := hW
  obtain ⟨rfl, rfl⟩ := trodVars_none hV
  have hA0 : DataW.TrodAll enc Try.prog W 0 (fun _ => true) true Try.f3.params.toList args.toList ds p := hA
  rw [Try.params3] at hA0 hval
  obtain ⟨v0, vs0, d0, ds0, p0, q0, hargs, rfl, rfl, h0, r0⟩ := trodAll_cons hA0
  obtain ⟨v1, vs1, d1, ds1, p1, q1, rfl, rfl, rfl, h1, r1⟩ := trodAll_cons r0
  obtain ⟨rfl, rfl, rfl⟩ := trodAll_nil r1
  obtain rfl : args = #[v0, v1] := by cases args; simp_all
  obtain ⟨cA, cc, c, rfl, chc, chm, cr, cb⟩ := open_code (hval 0 22 v0 rfl rfl) h0
  obtain ⟨dA, dc, d, rfl, dhc, dhm, dr, db⟩ := open_code (hval 1 22 v1 rfl rfl) h1
  refine (walk W cA dA cc dc c d cr dr cb db chc dhc chm dhm).mono fun e W' ⟨he, bel⟩ => ?_
  subst he
  exact ⟨_, rfl, law_post rfl (by kernel_rfl) (params_ok (by kernel_rfl)) hW' rfl rfl rfl bel⟩

theorem proved : Rows.FnSpaceJoinSaid :=
  OpenClaim.holds_of_wide 3 Try.f3 rfl rfl rfl rfl rfl rfl rfl ⟨rfl, rfl, rfl, rfl, rfl⟩ rfl rfl rfl rfl rfl (by kernel_rfl) Try.func3 (by kernel_rfl)
    (of_decide_eq_true (by kernel_rfl)) (by unfold Func.isWrapper; first | (rw [if_pos (by decide +kernel)]; kernel_rfl) | (rw [if_neg (by decide +kernel)]; exact ⟨rfl, rfl⟩))
    (fun os started H enc _ => lifted os started H enc)

end Go.Proofs.Ytomofiklodojeaa.lawFnSpaceJoin
