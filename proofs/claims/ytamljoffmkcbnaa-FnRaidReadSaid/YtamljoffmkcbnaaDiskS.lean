/- Disks: validity, the reference's text. -/
import Derived.Test.YtamljoffmkcbnaaDisk
namespace Go.Proofs.Ytamljoffmkcbnaa
open Go.RowKit
set_option maxRecDepth 100000
set_option linter.unusedVariables false
set_option linter.unusedSimpArgs false

set_option maxHeartbeats 4000000 in
theorem specDiskOk_any (w : World) (x : DA) (d : Dk) (h : DRd w x d) : Calls Try.prog 54 #[x.v] w fun e w' => e = .returned (.bool (diskB d)) ∧ Below w.heap.size w w' := by
  obtain ⟨C, nC, cC, W, nW, cW, g⟩ := x
  obtain ⟨hc, hw, hlC, hlW, hC, hW, mC, mW, hg, zC, zW⟩ := h
  obtain ⟨cells, waits, g'⟩ := d
  dsimp only at *
  subst hg
  subst hlC
  subst hlW
  have HBa := Lib.hid (below_alloc (Below.refl w.heap.size w) (.cells #[.slice C cells.length cC, .slice W waits.length cW, .bool g'] 51))
  unfold DA.v
  dsimp only
  have HR := Lib.hid (hc.below HBa.out)
  have HQ := Lib.hid (hw.below HBa.out)
  have HZC := Lib.hid zC
  have HZW := Lib.hid zW
  clear hc hw zC zW
  by_cases h64 : cells.length = 64
  rotate_left 1
  · have HE := Lib.hid (diskB_len (d := ⟨cells, waits, g'⟩) h64)
    have i64 : ¬ (cells.length : Int) = 64 := by omega
    have j64 : ((cells.length : Int) != 64) = true := by simp; omega
    clear HR HQ HZC HZW
    go_enter Try.func54, Try.ntmps54
    go_wp2_with fail
    go_ret
    exact ⟨ret_bool HE.out.symm, HBa.out⟩
  by_cases h120 : waits.length ≤ 120
  rotate_left 1
  · have HE := Lib.hid (diskB_long (d := ⟨cells, waits, g'⟩) h120)
    have H64 := Lib.hid h64
    have i120 : (120 : Int) < (waits.length : Int) := by omega
    rw [h64] at hC ⊢ HBa
    clear HR HQ HZC HZW h64 h120
    go_enter Try.func54, Try.ntmps54
    go_wp2_with fail
    go_ret
    exact ⟨ret_bool HE.out.symm, HBa.out⟩
  have i120 : ¬ (120 : Int) < (waits.length : Int) := by omega
  have H64 := Lib.hid h64
  have H120 := Lib.hid h120
  have HG := Lib.hid (fun (hh : ∀ s ∈ cells, cellB g' s = true) => (fun (hg : (g' && decide (0 < waits.length)) = false) => diskB_rest (d := ⟨cells, waits, g'⟩) h64 h120 hh hg))
  rw [h64] at hC HBa ⊢
  rw [h64] at HR HQ
  clear h64 h120
  cases g'
  · replace HG := Lib.hid (fun hh => HG.out hh rfl)
    go_enter Try.func54, Try.ntmps54
    go_wp2_with fail
    go_loop [3] (fun y => ∃ k : Nat, k ≤ 64 ∧ y = .int .i64 k ∧ Hid (∀ s ∈ cells.take k, cellB false s = true)) (fun y => 64 - (intOf y).toNat)
    case atStart => exact ⟨0, Nat.zero_le _, rfl, Lib.hid (fun x hx => by simp at hx)⟩
    case round =>
      obtain ⟨k, hk, rfl, HN⟩ := hrel
      by_cases hlt : k < 64
      · obtain ⟨b, off, s, rfl, hb, he, c0⟩ := HR.out.str1 (k := k) (by rw [H64.out]; exact hlt)
        have k2 : IntKind.i64.wrap ((k : Int) + 1) = (k : Int) + 1 := IntWalk.i64_in _ (by omega)
        have hzs := HZC.out s (List.mem_of_getElem? he)
        have HBD := Lib.hid (fun (hf : cellB false s = false) => diskB_cell (d := ⟨cells, waits, false⟩) (List.mem_of_getElem? he) hf)
        have HN2 := Lib.hid (fun (hx : cellB false s = true) => (show ∀ x ∈ cells.take (k + 1), cellB false x = true by
            rw [List.take_add_one, he]
            intro y hy
            rcases List.mem_append.1 hy with hy | hy
            · exact HN.out y hy
            · simp at hy; rw [hy]; exact hx))
        clear he
        by_cases h2 : s.size ≤ 200
        · have i2 : ¬ (200 : Int) < (s.size : Int) := by omega
          have HM := HN2.out (by simp [cellB, h2])
          replace HN2 := Lib.hid HM
          clear HM h2 HBD
          go_wp2_with fail
          exact ⟨⟨k + 1, by omega, by go_num, HN2⟩, by simp [intOf]; omega⟩
        · have i2 : (200 : Int) < (s.size : Int) := by omega
          have HM := Lib.hid (HBD.out (by simp [cellB, h2]))
          clear h2 HN2 HBD
          go_wp2_with fail
          go_ret
          exact ⟨ret_bool HM.out.symm, HBa.out⟩
      · obtain rfl : k = 64 := by omega
        have HAll := Lib.hid (HG.out (fun s hs => HN.out s (by rw [List.take_of_length_le (by rw [H64.out]; exact Nat.le_refl _)]; exact hs)))
        clear HR HZC HG HN
        go_wp2_with fail
        go_loop [4] (fun y => ∃ k : Nat, k ≤ waits.length ∧ y = .int .i64 k ∧ Hid (∀ x ∈ waits.take k, waitB x = true)) (fun y => waits.length - (intOf y).toNat)
        case atStart => exact ⟨0, Nat.zero_le _, rfl, Lib.hid (fun x hx => by simp at hx)⟩
        case round =>
          obtain ⟨k, hk, rfl, HN⟩ := hrel
          by_cases hlt : k < waits.length
          · obtain ⟨b, off, z, s, rfl, hb, he, c0, c1⟩ := HQ.out.wait hlt
            have k2 : IntKind.i64.wrap ((k : Int) + 1) = (k : Int) + 1 := IntWalk.i64_in _ (by have := H120.out; omega)
            have hzs := HZW.out _ (List.mem_of_getElem? he)
            dsimp only at hzs
            have HC := Lib.hid (fun W => l3Cell_any z W)
            have HBD := Lib.hid (fun (hf : waitB ⟨z, s⟩ = false) => diskB_wait (d := ⟨cells, waits, false⟩) (List.mem_of_getElem? he) hf)
            have HN2 := Lib.hid (fun (hx : waitB ⟨z, s⟩ = true) => (show ∀ x ∈ waits.take (k + 1), waitB x = true by
                rw [List.take_add_one, he]
                intro y hy
                rcases List.mem_append.1 hy with hy | hy
                · exact HN.out y hy
                · simp at hy; rw [hy]; exact hx))
            clear he
            cases hi : inB z 0 63
            · rw [hi] at HC
              have HM := Lib.hid (HBD.out (by simp [waitB, hi]))
              clear hi HN2 HBD
              go_wp2_with fail
              refine Calls.mono (HC.out _) ?_
              rintro e w1 ⟨rfl, rfl⟩
              go_wp2_with fail
              go_ret
              exact ⟨ret_bool HM.out.symm, HBa.out⟩
            · rw [hi] at HC
              by_cases h2 : s.size ≤ 200
              · have i2 : ¬ (200 : Int) < (s.size : Int) := by omega
                have HM := HN2.out (by simp [waitB, hi, h2])
                replace HN2 := Lib.hid HM
                clear HM hi h2 HBD
                go_wp2_with fail
                refine Calls.mono (HC.out _) ?_
                rintro e w1 ⟨rfl, rfl⟩
                go_wp2_with fail
                exact ⟨⟨k + 1, by omega, by go_num, HN2⟩, by simp [intOf]; omega⟩
              · have i2 : (200 : Int) < (s.size : Int) := by omega
                have HM := Lib.hid (HBD.out (by simp [waitB, h2]))
                clear hi h2 HN2 HBD
                go_wp2_with fail
                refine Calls.mono (HC.out _) ?_
                rintro e w1 ⟨rfl, rfl⟩
                go_wp2_with fail
                go_ret
                exact ⟨ret_bool HM.out.symm, HBa.out⟩
          · obtain rfl : k = waits.length := by omega
            have HM := Lib.hid (show diskB ⟨cells, waits, false⟩ = true from HAll.out.trans (List.all_eq_true.2 (fun x hx => HN.out x (by rw [List.take_length]; exact hx))))
            clear HN HQ HZW HAll
            generalize waits.length = nw at *
            go_wp2_with fail
            go_ret
            exact ⟨ret_bool HM.out.symm, HBa.out⟩

  · by_cases h0 : 0 < waits.length
    · have HM := Lib.hid (diskB_gone (d := ⟨cells, waits, true⟩) rfl h0)
      clear HG HR HQ HZC HZW H120
      generalize waits.length = nw at *
      have i0 : (0 : Int) < (nw : Int) := by omega
      go_enter Try.func54, Try.ntmps54
      go_wp2_with fail
      go_ret
      exact ⟨ret_bool HM.out.symm, HBa.out⟩
    · obtain rfl : waits = [] := List.length_eq_zero_iff.1 (by omega)
      replace HG := Lib.hid (fun hh => HG.out hh rfl)
      dsimp only [List.length_nil] at *
      clear HQ HZW h0 i120
      go_enter Try.func54, Try.ntmps54
      go_wp2_with fail
      go_loop [3] (fun y => ∃ k : Nat, k ≤ 64 ∧ y = .int .i64 k ∧ Hid (∀ s ∈ cells.take k, cellB true s = true)) (fun y => 64 - (intOf y).toNat)
      case atStart => exact ⟨0, Nat.zero_le _, rfl, Lib.hid (fun x hx => by simp at hx)⟩
      case round =>
        obtain ⟨k, hk, rfl, HN⟩ := hrel
        by_cases hlt : k < 64
        · obtain ⟨b, off, s, rfl, hb, he, c0⟩ := HR.out.str1 (k := k) (by rw [H64.out]; exact hlt)
          have k2 : IntKind.i64.wrap ((k : Int) + 1) = (k : Int) + 1 := IntWalk.i64_in _ (by omega)
          have hzs := HZC.out s (List.mem_of_getElem? he)
          have HBD := Lib.hid (fun (hf : cellB true s = false) => diskB_cell (d := ⟨cells, [], true⟩) (List.mem_of_getElem? he) hf)
          have HN2 := Lib.hid (fun (hx : cellB true s = true) => (show ∀ x ∈ cells.take (k + 1), cellB true x = true by
              rw [List.take_add_one, he]
              intro y hy
              rcases List.mem_append.1 hy with hy | hy
              · exact HN.out y hy
              · simp at hy; rw [hy]; exact hx))
          clear he
          by_cases h2 : s.size ≤ 200
          · have i2 : ¬ (200 : Int) < (s.size : Int) := by omega
            cases hem : s.toList.isEmpty
            · have HM := Lib.hid (HBD.out (by simp [cellB, hem]))
              clear h2 HN2 HBD
              go_wp2_with fail
              go_ret
              exact ⟨ret_bool HM.out.symm, HBa.out⟩
            · have HM := HN2.out (by simp only [cellB, hem]; simp [h2])
              replace HN2 := Lib.hid HM
              clear HM h2 HBD
              go_wp2_with fail
              exact ⟨⟨k + 1, by omega, by go_num, HN2⟩, by simp [intOf]; omega⟩
          · have i2 : (200 : Int) < (s.size : Int) := by omega
            have HM := Lib.hid (HBD.out (by simp [cellB, h2]))
            clear h2 HN2 HBD
            go_wp2_with fail
            go_ret
            exact ⟨ret_bool HM.out.symm, HBa.out⟩
        · obtain rfl : k = 64 := by omega
          have HAll := Lib.hid (HG.out (fun s hs => HN.out s (by rw [List.take_of_length_le (by rw [H64.out]; exact Nat.le_refl _)]; exact hs)))
          clear HR HZC HG HN
          go_wp2_with fail
          go_loop [4] (fun y => y = .int .i64 0) (fun y => 0)
          case atStart => rfl
          case round =>
            obtain rfl := hrel
            have HM := Lib.hid (show diskB ⟨cells, [], true⟩ = true from HAll.out.trans rfl)
            clear HAll
            go_wp2_with fail
            go_ret
            exact ⟨ret_bool HM.out.symm, HBa.out⟩

set_option maxHeartbeats 2000000 in
theorem specRaidOk_any (w : World) (A : Option Addr) (cap : Nat) (xs : List DA) (ds : List Dk) (h : RRd w A cap xs ds) (hn : xs.length ≤ 1048576) :
    Calls Try.prog 32 #[.agg #[.slice A xs.length cap]] w fun e w' => e = .returned (.bool (raidB ds)) ∧ Below w.heap.size w w' := by
  have HBa := Lib.hid (below_alloc (Below.refl w.heap.size w) (.cells #[.slice A xs.length cap] 25))
  have BX := Lib.hid (box_new w #[.slice A xs.length cap] 25)
  have HR := Lib.hid h
  have hc := h.hc
  have hm := h.mc
  have HLN := Lib.hid h.len
  clear h
  go_enter Try.func32, Try.ntmps32
  go_wp2_with fail
  go_loopw [3] (fun i wr => ∃ k : Nat, k ≤ xs.length ∧ i = .int .i64 k ∧ Hid (∀ x ∈ ds.take k, diskB x = true) ∧ Hid (Below w.heap.size w wr) ∧ Hid (BoxAt wr w.heap.size #[.slice A xs.length cap] 25)) (fun i _ => xs.length - (intOf i).toNat)
  case atStart => exact ⟨0, Nat.zero_le _, rfl, Lib.hid (fun x hx => by simp at hx), HBa, BX⟩
  case round =>
    obtain ⟨k, hk, rfl, HN, HB, HX⟩ := hrel
    have bx := HX.out.cell
    have bl := HX.out.lt
    by_cases hlt : k < xs.length
    · obtain ⟨b, off, x, rfl, hb, he, c0, c1, c2⟩ := (HR.out.below HB.out).rows.disk hlt
      obtain ⟨d, hd, hrd⟩ := (HR.out.below HB.out).each k x he
      have k2 : IntKind.i64.wrap ((k : Int) + 1) = (k : Int) + 1 := IntWalk.i64_in _ (by omega)
      have HC := Lib.hid (specDiskOk_any wr x d hrd)
      obtain ⟨xC, xnC, xcC, xW, xnW, xcW, xg⟩ := x
      unfold DA.v at HC
      dsimp only at HC c0 c1 c2
      clear hrd he
      cases hx : diskB d
      · have HA := Lib.hid (show raidB ds = false by
          unfold raidB
          rw [show ds.all diskB = false from List.all_eq_false.2 ⟨_, List.mem_of_getElem? hd, by simp [hx]⟩, Bool.and_false])
        rw [hx] at HC
        clear hd hx
        go_wp2_with fail
        refine Calls.mono HC.out ?_
        rintro e w1 ⟨rfl, hB⟩
        have HB2 := Lib.hid (below_below HB.out hB)
        clear hB
        go_wp2_with fail
        go_ret
        exact ⟨ret_bool HA.out.symm, HB2.out⟩
      · have HN2 := Lib.hid (show ∀ x ∈ ds.take (k + 1), diskB x = true by
          rw [List.take_add_one, hd]
          intro y hy
          rcases List.mem_append.1 hy with hy | hy
          · exact HN.out y hy
          · simp at hy; rw [hy]; exact hx)
        rw [hx] at HC
        clear hd hx
        go_wp2_with fail
        refine Calls.mono HC.out ?_
        rintro e w1 ⟨rfl, hB⟩
        have HB2 := Lib.hid (below_below HB.out hB)
        have HX2 := Lib.hid (HX.out.below hB)
        clear hB
        go_wp2_with fail
        exact ⟨⟨k + 1, by omega, by go_num, HN2, HB2, HX2⟩, by simp [intOf]; omega⟩
    · obtain rfl : k = xs.length := by omega
      have HA := Lib.hid (show raidB ds = decide (xs.length = 3) by
        unfold raidB
        rw [show ds.all diskB = true from List.all_eq_true.2 (fun x hx => HN.out x (by rw [List.take_of_length_le (by rw [HLN.out]; exact Nat.le_refl _)]; exact hx)), Bool.and_true, HLN.out]
        rfl)
      have HRG := Lib.hid HR.out.rows
      clear HN HR HRG
      generalize xs.length = n at *
      by_cases h3 : n = 3
      · subst h3
        go_wp2_with fail
        go_ret
        exact ⟨ret_bool HA.out.symm, HB.out⟩
      · have i3 : ((n : Int) == 3) = false := by simp; omega
        have HA2 := Lib.hid (HA.out.trans (by simp [h3] : decide (n = 3) = false))
        clear HA h3
        go_wp2_with fail
        go_ret
        exact ⟨ret_bool HA2.out.symm, HB.out⟩

end Go.Proofs.Ytamljoffmkcbnaa
