/- FnRaidNew returns true for every code. No condition. -/
import Derived.Test.YtamljoffmkcbnaaRaidNew
import Derived.Test.YtamljoffmkcbnaaRaidRead
import Derived.Test.YtamljoffmkcbnaaRaidReadS
import Derived.Test.YtamljoffmkcbnaaPfTexts
import Derived.Test.YtamljoffmkcbnaaLaw
import Derived.Deep.RegionHeld3
namespace Go.Proofs.Ytamljoffmkcbnaa.lawFnRaidNew
open Go.ChangeShapes Go.WideShapes Go.ChangeAt Go.RowKit
set_option maxRecDepth 100000
set_option linter.unusedVariables false
set_option linter.unusedSimpArgs false

set_option maxHeartbeats 1000000 in
theorem pfDisk_blank (w : World) (x y : DA) (hx : DRd w x (blankD false)) (hy : DRd w y (blankD false)) : Calls Try.prog 22 #[x.v, y.v] w fun e w' => e = .returned (.bool true) ∧ Below w.heap.size w w' := by
  obtain ⟨C, nC, cC, W, nW, cW, g1⟩ := x
  obtain ⟨C', nC', cC', W', nW', cW', g2⟩ := y
  obtain rfl : nC = nC' := hx.lC.symm.trans hy.lC
  obtain rfl : 0 = nW := hx.lW
  obtain rfl : 0 = nW' := hy.lW
  obtain rfl : false = g1 := hx.gn
  obtain rfl : false = g2 := hy.gn
  have E1 := Lib.hid (fun V (hB : Below w.heap.size w V) => (by have := pfTexts_true V C C' cC cC' (blankD false).cells (hx.cells.below hB) (hy.cells.below hB) (by rw [hx.lC]; exact hx.hC) (by rw [hy.lC]; exact hy.hC) hx.mC; rw [hx.lC] at this; exact this))
  clear hx hy
  unfold DA.v
  dsimp only at *
  have HBw := Lib.hid (below_alloc (below_alloc (Below.refl w.heap.size w) (.cells #[.slice C nC cC, .slice W 0 cW, .bool false] 51)) (.cells #[.slice C' nC cC', .slice W' 0 cW', .bool false] 51))
  have BX := Lib.hid ((box_new w #[.slice C nC cC, .slice W 0 cW, .bool false] 51).alloc (.cells #[.slice C' nC cC', .slice W' 0 cW', .bool false] 51))
  have BY := box_new (w.alloc (.cells #[.slice C nC cC, .slice W 0 cW, .bool false] 51)) #[.slice C' nC cC', .slice W' 0 cW', .bool false] 51
  rw [World.size_alloc] at BY
  replace BY := Lib.hid BY
  go_enter Try.func22, Try.ntmps22
  go_wp2_with fail
  refine Calls.mono (E1.out _ HBw.out) ?_
  rintro e w1 ⟨rfl, hB⟩
  have HB1 := Lib.hid (below_below HBw.out hB)
  have BX1 := Lib.hid (BX.out.below hB)
  have BY1 := Lib.hid (BY.out.below hB)
  have bx := BX1.out.cell
  have bl := BX1.out.lt
  have by1 := BY1.out.cell
  have byl := BY1.out.lt
  clear hB BX BY E1
  go_wp2_with fail
  go_loop [5] (fun y => y = .int .i64 0) (fun y => 0)
  case atStart => rfl
  case round =>
    obtain rfl := hrel
    go_wp2_with fail
    go_ret
    exact ⟨rfl, HB1.out⟩

def blank3 : List Dk := [blankD false, blankD false, blankD false]
theorem rrd_blank {base w} {D cap : Nat} {xs : List DA} (h : RI base 0 w D cap xs) (hx : ∀ x ∈ xs, BI base w x) : RRd w (some ⟨D, 0, none⟩) cap xs blank3 :=
  ⟨h.rows, by rw [h.len]; rfl, by rw [h.len]; exact h.cap3.1, h.cap3.2, fun i x hi => by
    have hlt : i < 3 := by
      rcases Nat.lt_or_ge i 3 with h' | h'
      · exact h'
      · rw [List.getElem?_eq_none (by rw [h.len]; exact h')] at hi; cases hi
    have hb := (hx x (List.mem_of_getElem? hi)).1
    rcases (show i = 0 ∨ i = 1 ∨ i = 2 by omega) with rfl | rfl | rfl <;> exact ⟨blankD false, rfl, hb⟩⟩

set_option maxHeartbeats 1000000 in
theorem pfRaid_blank (w : World) (A B : Option Addr) (cap dap : Nat) (xs ys : List DA) (h : RRd w A cap xs blank3) (g : RRd w B dap ys blank3) :
    Calls Try.prog 8 #[.agg #[.slice A 3 cap], .agg #[.slice B 3 dap]] w fun e w' => e = .returned (.bool true) ∧ Below w.heap.size w w' := by
  have HBw := Lib.hid (below_alloc (below_alloc (Below.refl w.heap.size w) (.cells #[.slice A 3 cap] 25)) (.cells #[.slice B 3 dap] 25))
  have BX := Lib.hid ((box_new w #[.slice A 3 cap] 25).alloc (.cells #[.slice B 3 dap] 25))
  have BY := box_new (w.alloc (.cells #[.slice A 3 cap] 25)) #[.slice B 3 dap] 25
  rw [World.size_alloc] at BY
  replace BY := Lib.hid BY
  have HR := Lib.hid h
  have HG := Lib.hid g
  have hc : 3 ≤ cap := by have := h.hc; have := h.len; simp [blank3] at this; omega
  have hd : 3 ≤ dap := by have := g.hc; have := g.len; simp [blank3] at this; omega
  have hm := h.mc
  have hm2 := g.mc
  have HLX := Lib.hid (show xs.length = 3 from h.len.symm)
  have HLY := Lib.hid (show ys.length = 3 from g.len.symm)
  clear h g
  go_enter Try.func8, Try.ntmps8
  go_wp2_with fail
  go_loopw [5] (fun i wr => ∃ k : Nat, k ≤ 3 ∧ i = .int .i64 k ∧ Hid (Below w.heap.size w wr) ∧ Hid (BoxAt wr w.heap.size #[.slice A 3 cap] 25) ∧ Hid (BoxAt wr (w.heap.size + 1) #[.slice B 3 dap] 25)) (fun i _ => 3 - (intOf i).toNat)
  case atStart => exact ⟨0, Nat.zero_le _, rfl, HBw, BX, BY⟩
  case round =>
    clear HBw BX BY
    obtain ⟨k, hk, rfl, HB, BX, BY⟩ := hrel
    have bx := BX.out.cell
    have bl := BX.out.lt
    have by1 := BY.out.cell
    have byl := BY.out.lt
    by_cases hlt : k < 3
    · obtain ⟨b, off, x, rfl, hb, he, c0, c1, c2⟩ := (HR.out.below HB.out).rows.disk (k := k) (by rw [HLX.out]; exact hlt)
      obtain ⟨d, hd1, hrd⟩ := (HR.out.below HB.out).each k x he
      obtain ⟨b', off', y, rfl, hb', he', c0', c1', c2'⟩ := (HG.out.below HB.out).rows.disk (k := k) (by rw [HLY.out]; exact hlt)
      obtain ⟨d', hd1', hrd'⟩ := (HG.out.below HB.out).each k y he'
      obtain rfl : d = d' := by rw [hd1] at hd1'; cases hd1'; rfl
      obtain rfl : d = blankD false := by
        rcases (show k = 0 ∨ k = 1 ∨ k = 2 by omega) with rfl | rfl | rfl <;> (simp [blank3] at hd1; exact hd1.symm)
      have HC := Lib.hid (fun W (hB : Below wr.heap.size wr W) => pfDisk_blank W x y (hrd.below hB) (hrd'.below hB))
      obtain ⟨xC, xnC, xcC, xW, xnW, xcW, xg⟩ := x
      obtain ⟨yC, ynC, ycC, yW, ynW, ycW, yg⟩ := y
      unfold DA.v at HC
      dsimp only at *
      clear hrd hrd' he he' hd1 hd1'
      go_wp2_with fail
      refine wp_quiet_b (by kernel_rfl) (by kernel_rfl) (fun hgrow => ?_)
      repeat (go_big_quiet_step ((go_at_call 22; exact quiet_b (HC.out _ (below_regrown _ _ _)))))
      refine wpQuiet_nil ?_
      intro w2 hww2
      replace hww2 := below_of_regrown hww2
      clear hgrow
      go_wp2_with fail
      go_roundw
      case rel => exact ⟨k + 1, by omega, by go_num, Lib.hid (below_below HB.out hww2), Lib.hid (BX.out.below hww2), Lib.hid (BY.out.below hww2)⟩
      case measure => simp [intOf]; omega
    · obtain rfl : k = 3 := by omega
      go_wp2_with fail
      go_ret
      exact ⟨rfl, HB.out⟩

/-- Nothing is read from new disks. -/
theorem blank_none (p : Pt) : rrK blank3 p = none := by
  unfold rrK
  split
  · next h =>
    simp only [Bool.and_eq_true, Bool.not_eq_true'] at h
    obtain ⟨h3, hp, hh⟩ := h
    obtain ⟨_, hs⟩ := ptr_ok hp hh
    obtain ⟨s1, s2⟩ := inB_true hs
    have hw : ∀ l, wayK blank3 p l = none := fun l => by
      obtain ⟨sz, hsz⟩ : ∃ sz : Nat, p.size.toNat = sz := ⟨_, rfl⟩
      have h1 : 1 ≤ sz := by omega
      have hh1 : ∃ h m, (sz + 1) / 2 = h ∧ sz - h = m ∧ 1 ≤ h := ⟨_, _, rfl, rfl, by omega⟩
      obtain ⟨h, m, eh, em, bh⟩ := hh1
      have hc : colI p.at_ (blankD false) = ⟨#[]⟩ := by
        unfold colI blankD lookK lastW
        simp only [List.reverse_nil, List.find?_nil, Option.map_none, Option.getD_none]
        rw [List.getD_eq_getElem?_getD]
        cases hg : (List.replicate 64 (⟨#[]⟩ : ByteArray))[p.at_.toNat]? with
        | none => rfl
        | some s =>
          have := List.mem_of_getElem? hg
          rw [List.eq_of_mem_replicate this]
          rfl
      have nh : ¬ 0 = h := by omega
      unfold wayK joinL
      rw [hsz, eh, em]
      simp only [blank3, List.map, hc, List.getD_cons_zero, List.getD_cons_succ]
      have z0 : (⟨#[]⟩ : ByteArray).size = 0 := rfl
      simp [joinK, z0, nh, fitO]
    unfold readK firstO
    rw [hw, hw, hw]
  · rfl
theorem blank_ok : raidB blank3 = true := by
  have hc : ∀ s ∈ List.replicate 64 (⟨#[]⟩ : ByteArray), cellB false s = true := fun s hs => by
    rw [List.eq_of_mem_replicate hs]
    rfl
  have hd : diskB (blankD false) = true := by
    unfold diskB blankD
    dsimp only
    rw [List.all_eq_true.2 hc]
    simp
  simp [raidB, blank3, hd]

theorem isBlock_any (s : ByteArray) (w : World) (hs : s.size ≤ 9223372036854775807) : Calls Try.prog 24 #[.string s] w fun e w' => e = .returned (.bool (inB (s.size : Int) 1 128)) ∧ w = w' := by
  go_enter Try.func24, Try.ntmps24
  go_wp2_with fail
  refine Calls.mono (within_any _ _ _ _) ?_
  rintro e w2 ⟨rfl, rfl⟩
  go_wp2_with fail
  go_ret
  exact ⟨rfl, rfl⟩

set_option maxHeartbeats 2000000 in
theorem ptrOf_some (w : World) (a b l : Int) (s : ByteArray) (hs : s.size ≤ 9223372036854775807) (hb1 : inB (s.size : Int) 1 128 = true) : Calls Try.prog 9 #[.int .i64 a, .int .i64 b, .int .i64 l, .string s] w (SomeP w) := by
  have HS := Lib.hid (fun w => sumOf_any s w hs)
  have HK := Lib.hid (fun W => isBlock_any s W hs)
  rw [hb1] at HK
  generalize sumL s.data.toList = r at *
  have HP := Lib.hid (ptrOk_any ⟨a, b, s.size, r, l⟩)
  generalize ptrB ⟨a, b, s.size, r, l⟩ = pb at *
  unfold Pt.v at HP
  dsimp only at HP
  have B0 := Lib.hid (below_alloc (below_alloc (Below.refl w.heap.size w) (.cells #[.int .i64 0, .int .i64 0, .int .i64 0, .int .i64 0, .int .i64 0] 29)) (.cells #[.int .i64 a, .int .i64 b, .int .i64 (s.size : Int), .int .i64 r, .int .i64 l] 29))
  have BX := box_new w #[.int .i64 0, .int .i64 0, .int .i64 0, .int .i64 0, .int .i64 0] 29
  have RC0 := Lib.hid (BX.alloc (.cells #[.int .i64 a, .int .i64 b, .int .i64 (s.size : Int), .int .i64 r, .int .i64 l] 29))
  have PX := box_new (w.alloc (.cells #[.int .i64 0, .int .i64 0, .int .i64 0, .int .i64 0, .int .i64 0] 29)) #[.int .i64 a, .int .i64 b, .int .i64 (s.size : Int), .int .i64 r, .int .i64 l] 29
  rw [World.size_alloc] at PX
  replace PX := Lib.hid PX
  clear BX
  go_enter Try.func9, Try.ntmps9
  go_wp2_with fail
  refine Calls.mono (HS.out _) ?_
  rintro e w2 ⟨rfl, rfl⟩
  go_wp2_with fail
  refine Calls.mono (HK.out _) ?_
  rintro e w3 ⟨rfl, rfl⟩
  go_wp2_with fail
  refine Calls.mono (HP.out _) ?_
  rintro e w4 ⟨rfl, hB⟩
  have HB4 := Lib.hid (below_below B0.out hB)
  have RC := Lib.hid (RC0.out.below hB)
  have PX4 := Lib.hid (PX.out.below hB)
  have rc := RC.out.cell
  have rf := RC.out.froz
  have rl := RC.out.lt
  have pc := PX4.out.cell
  have pcl := PX4.out.lt
  clear PX hB RC0
  cases pb
  · go_wp2_with fail
    refine bodyPost_ret (v := .tuple #[.agg #[.int .i64 0, .int .i64 0, .int .i64 0, .int .i64 0, .int .i64 0], .bool false]) (by simp [results, Try.results9, go_sem, rc, rl]) rfl ⟨⟨0, 0, 0, 0, 0⟩, false, rfl, ?_⟩
    exact (below_set (below_set (below_set (below_set (below_set HB4.out (p := ⟨w.heap.size, 0, none⟩) (Nat.le_refl _) (.int .i64 0)) (p := ⟨w.heap.size, 1, none⟩) (Nat.le_refl _) (.int .i64 0)) (p := ⟨w.heap.size, 2, none⟩) (Nat.le_refl _) (.int .i64 0)) (p := ⟨w.heap.size, 3, none⟩) (Nat.le_refl _) (.int .i64 0)) (p := ⟨w.heap.size, 4, none⟩) (Nat.le_refl _) (.int .i64 0))
  · go_wp2_with fail
    refine bodyPost_ret (v := .tuple #[.agg #[.int .i64 a, .int .i64 b, .int .i64 (s.size : Int), .int .i64 r, .int .i64 l], .bool true]) (by simp [results, Try.results9, go_sem, rc, rl]) rfl ⟨⟨a, b, s.size, r, l⟩, true, rfl, ?_⟩
    exact (below_set (below_set (below_set (below_set (below_set HB4.out (p := ⟨w.heap.size, 0, none⟩) (Nat.le_refl _) (.int .i64 a)) (p := ⟨w.heap.size, 1, none⟩) (Nat.le_refl _) (.int .i64 b)) (p := ⟨w.heap.size, 2, none⟩) (Nat.le_refl _) (.int .i64 (s.size : Int))) (p := ⟨w.heap.size, 3, none⟩) (Nat.le_refl _) (.int .i64 r)) (p := ⟨w.heap.size, 4, none⟩) (Nat.le_refl _) (.int .i64 l))

set_option maxHeartbeats 4000000 in
theorem walk (w : World) (A : Option Addr) (n cap : Nat) (hc : n ≤ cap) (hm : cap ≤ 9223372036854775807) :
    Calls Try.prog 3 #[.slice A n cap] w fun e w' => e = .returned (.bool true) ∧ Below w.heap.size w w' := by
  by_cases hbig : 1048576 < n
  · go_enter Try.func3, Try.ntmps3
    go_wp2
    go_ret
    exact ⟨rfl, Below.refl _ _⟩
  have HPO := Lib.hid (fun W => ptrOf_some W 8 1 0 ⟨#[120]⟩ (by decide) (by decide))
  have HRR := Lib.hid (fun (W : World) (A : Option Addr) (cap : Nat) (xs : List DA) (hl : xs.length = 3) (p : Pt) (h : RRd W A cap xs blank3) => (by
    have := raidRead_any W A cap xs blank3 p h
    rw [hl, blank_none] at this
    exact this))
  have HOK := Lib.hid (fun (W : World) (A : Option Addr) (cap : Nat) (xs : List DA) (hl : xs.length = 3) (h : RRd W A cap xs blank3) => (by
    have := raidOk_any W A cap xs blank3 h
    rw [hl, blank_ok] at this
    exact this))
  go_enter Try.func3, Try.ntmps3
  go_wp2_with fail
  refine Calls.mono (raidNew_any _) ?_
  rintro e w1 ⟨D, c, xs, rfl, hI, hX, hB⟩
  have R1 := Lib.hid (rrd_blank hI hX)
  have L1 := Lib.hid hI.len
  have HB1 := Lib.hid hB
  clear hI hX hB
  have B1 := below_alloc (Below.refl w1.heap.size w1) (.cells #[.slice (some ⟨D, 0, none⟩) 3 c] 25)
  have BX1 := Lib.hid (box_new w1 #[.slice (some ⟨D, 0, none⟩) 3 c] 25)
  have R1a := Lib.hid (R1.out.below B1)
  have HB1a := Lib.hid (below_below HB1.out B1)
  clear B1 R1 HB1
  go_wp2_with fail
  refine Calls.mono (specRaidNew_any _) ?_
  rintro e w2 ⟨D2, c2, ys, rfl, hI, hX, hB⟩
  have S2 := rrd_blank hI hX
  have L2 := Lib.hid hI.len
  have B2 := below_alloc (Below.refl w2.heap.size w2) (.cells #[.slice (some ⟨D2, 0, none⟩) 3 c2] 25)
  have BY2 := Lib.hid (box_new w2 #[.slice (some ⟨D2, 0, none⟩) 3 c2] 25)
  have R2a := Lib.hid ((R1a.out.below hB).below B2)
  have S2a := Lib.hid (S2.below B2)
  have BX2 := Lib.hid ((BX1.out.below hB).below B2)
  have HB2 := Lib.hid (below_below (below_below HB1a.out hB) B2)
  have hlt12 : w1.heap.size < w2.heap.size := (BX1.out.below hB).lt
  have bx2 := BX2.out.cell
  have bl2 := BX2.out.lt
  clear hI hX hB S2 B2 R1a HB1a BX1
  go_wp2_with fail
  refine Calls.mono (pfRaid_blank _ _ _ c c2 xs ys R2a.out S2a.out) ?_
  rintro e w3 ⟨rfl, hB⟩
  have R3 := Lib.hid (R2a.out.below hB)
  have BX3 := Lib.hid (BX2.out.below hB)
  have HB3 := Lib.hid (below_below HB2.out hB)
  have hlt3 : w1.heap.size < w3.heap.size := BX3.out.lt
  clear hB bx2 bl2 BX2 HB2 R2a S2a BY2
  go_wp2_with fail
  refine Calls.mono (HPO.out _) ?_
  rintro e w4 ⟨⟨pa, pb, ps, pu, pl⟩, pbo, he, hB⟩
  unfold Pt.v at he
  dsimp only at he
  subst he
  have HRP := Lib.hid (fun W A cap xs hl (h : RRd W A cap xs blank3) => HRR.out W A cap xs hl ⟨pa, pb, ps, pu, pl⟩ h)
  unfold Pt.v at HRP
  dsimp only at HRP
  have B4 := below_alloc (Below.refl w4.heap.size w4) (.cells #[.int .i64 pa, .int .i64 pb, .int .i64 ps, .int .i64 pu, .int .i64 pl] 29)
  have R4 := Lib.hid ((R3.out.below hB).below B4)
  have BX4 := Lib.hid ((BX3.out.below hB).below B4)
  have HB4 := Lib.hid (below_below (below_below HB3.out hB) B4)
  have bx4 := BX4.out.cell
  have bl4 := BX4.out.lt
  have hlt4 : w1.heap.size < w4.heap.size := (BX3.out.below hB).lt
  clear hB B4 R3 BX3 HB3 HRR HPO
  go_wp2_with fail
  refine Calls.mono (HRP.out _ _ c xs L1.out R4.out) ?_
  rintro e w5 ⟨rfl, hB⟩
  have R5 := Lib.hid (R4.out.below hB)
  have BX5 := Lib.hid (BX4.out.below hB)
  have HB5 := Lib.hid (below_below HB4.out hB)
  have bx5 := BX5.out.cell
  have bl5 := BX5.out.lt
  unfold optS
  dsimp only [Option.getD, Option.isSome]
  clear hB bx4 bl4 BX4 R4 HB4 HRP
  go_wp2_with fail
  refine Calls.mono (HOK.out _ _ c xs L1.out R5.out) ?_
  rintro e w6 ⟨rfl, hB⟩
  have HB6 := Lib.hid (below_below HB5.out hB)
  clear hB bx5 bl5 BX5 R5 HOK
  go_wp2_with fail
  go_ret
  exact ⟨rfl, HB6.out⟩

set_option maxRecDepth 100000 in
theorem lifted (os : Os) (started : os.Started) (H : Type) (enc : TypeId × Value → H) :
    ReturnsInHanded {} Try.checked os 3 .any (Rows.fnRaidNewSpec.pre6 enc Try.prog Try.f3 Rows.fnRaidNewRow.domain false) (Rows.fnRaidNewSpec.post enc Try.prog Try.f3 false true false false) := by
  refine returnsInHanded_of_change (C := Try.checked) own started (by kernel_rfl) Try.func3
    (ChangeSpec.witness6 (enc := enc) (C := Try.checked) false ⟨#[], #[.slice none 0 0], []⟩ 8 (by kernel_rfl) (by kernel_rfl) (by kernel_rfl) (by kernel_rfl)) ?_
  intro W base args ds gs before hval0 hW hcnd _
  have hval : ∀ (j : Nat) t v, Try.f3.params[j]? = some t → args[j]? = some v → Value.okWide Try.prog W .any base t v := hval0
  have hW' := hW
  obtain ⟨p, q, hA, hV, rfl, hfz, hnd⟩ := hW
  obtain ⟨rfl, rfl⟩ := trodVars_none hV
  have hA0 : DataW.TrodAll enc Try.prog W 0 (fun _ => true) true Try.f3.params.toList args.toList ds p := hA
  rw [Try.params3] at hA0 hval
  obtain ⟨v0, vs0, d0, ds0, p0, q0, hargs, rfl, rfl, h0, r0⟩ := trodAll_cons hA0
  obtain ⟨rfl, rfl, rfl⟩ := trodAll_nil r0
  obtain rfl : args = #[v0] := by cases args; simp_all
  obtain ⟨cA, cc, c, rfl, chc, chm, cr, cb⟩ := open_code (hval 0 22 v0 rfl rfl) h0
  refine (walk W cA c.length cc chc chm).mono fun e W' ⟨he, bel⟩ => ?_
  subst he
  exact ⟨_, rfl, law_post rfl (by kernel_rfl) (params_ok (by kernel_rfl)) hW' rfl rfl rfl bel⟩

theorem proved : Rows.FnRaidNewSaid :=
  OpenClaim.holds_of_wide 3 Try.f3 rfl rfl rfl rfl rfl rfl rfl ⟨rfl, rfl, rfl, rfl, rfl⟩ rfl rfl rfl rfl rfl (by kernel_rfl) Try.func3 (by kernel_rfl)
    (of_decide_eq_true (by kernel_rfl)) (by unfold Func.isWrapper; first | (rw [if_pos (by decide +kernel)]; kernel_rfl) | (rw [if_neg (by decide +kernel)]; exact ⟨rfl, rfl⟩))
    (fun os started H enc _ => lifted os started H enc)

end Go.Proofs.Ytamljoffmkcbnaa.lawFnRaidNew
