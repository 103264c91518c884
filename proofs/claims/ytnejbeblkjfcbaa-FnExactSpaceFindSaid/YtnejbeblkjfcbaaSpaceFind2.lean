/- Space: where a free row is: the calls. -/
import Derived.Test.YtnejbeblkjfcbaaSpaceFind
namespace Go.Proofs.Ytnejbeblkjfcbaa
open Go.RowKit
set_option linter.unusedVariables false
set_option linter.unusedSimpArgs false

theorem findOf_no {rs ls but : List Int} {f : Int} (h : spaceB rs ls = false) : findOf rs ls but f = -1 := by simp [findOf, h]
theorem findOf_yes {rs ls but : List Int} {f : Int} (h : spaceB rs ls = true) : findOf rs ls but f = findAt rs but (fromOf f) 56 0 ∧ rs.length = 64 ∧ ls.length = 64 := by
  refine ⟨by simp [findOf, h], ?_⟩
  simp only [spaceB, Bool.and_eq_true, decide_eq_true_eq] at h
  exact ⟨h.1, h.2.1⟩

set_option maxHeartbeats 1000000 in
theorem specSpaceFind_any (w : World) (A B C : Option Addr) (c d b : Nat) (rs ls but : List Int) (f : Int) (h : RdT encN 1 w A rs) (g : RdT encN 1 w B ls) (hbt : RdT encN 1 w C but) (hc : rs.length ≤ c) (hd : ls.length ≤ d) (hb : but.length ≤ b) (hcm : c ≤ 9223372036854775807) (hdm : d ≤ 9223372036854775807) (hbm : b ≤ 9223372036854775807) :
    Calls Try.prog 5 #[.agg #[.slice A rs.length c, .slice B ls.length d], .int .i64 f, .slice C but.length b] w fun e w' => e = .returned (.int .i64 (findOf rs ls but f)) ∧ Below w.heap.size w w' := by
  have HBa := Lib.hid (below_alloc (Below.refl w.heap.size w) (.cells #[.slice A rs.length c, .slice B ls.length d] 27))
  have HS := Lib.hid (specSpaceOk_any _ A B c d rs ls (h.below HBa.out) (g.below HBa.out) hc hd hcm hdm)
  have HR := Lib.hid h
  have HT := Lib.hid hbt
  clear h g hbt
  cases hok : spaceB rs ls
  · rw [hok] at HS
    have E := Lib.hid (findOf_no (but := but) (f := f) hok)
    go_enter Try.func5, Try.ntmps5
    go_wp2_with fail
    refine Calls.mono HS.out ?_
    rintro e w1 ⟨rfl, hB1⟩
    have HB1 := Lib.hid (below_below HBa.out hB1)
    clear hB1
    go_wp2_with fail
    go_ret
    exact ⟨ret_int E.out.symm, HB1.out⟩
  · rw [hok] at HS
    obtain ⟨e1, e2, e3⟩ := findOf_yes (but := but) (f := f) hok
    have E := Lib.hid e1
    rw [e2, e3] at HS HBa
    rw [e2, e3]
    go_enter Try.func5, Try.ntmps5
    go_wp2_with fail
    refine Calls.mono HS.out ?_
    rintro e w1 ⟨rfl, hB1⟩
    have HB1 := Lib.hid (below_below HBa.out hB1)
    obtain ⟨c1, f1⟩ := bcell hB1
    clear hB1
    have HL := Lib.hid (l5Find_any w1 A B C c d b rs ls but f (HR.out.below HB1.out) (HT.out.below HB1.out) e2 (by omega) hb hbm hcm)
    rw [e3] at HL
    clear e1
    go_wp2_with fail
    refine Calls.mono HL.out ?_
    rintro e w2 ⟨rfl, hB2⟩
    have HB2 := Lib.hid (below_below HB1.out hB2)
    clear hB2
    go_wp2_with fail
    go_ret
    exact ⟨ret_int E.out.symm, HB2.out⟩

set_option maxHeartbeats 2000000 in
theorem spaceFind_any (w : World) (A B C : Option Addr) (c d b : Nat) (rs ls but : List Int) (f : Int) (h : RdT encN 1 w A rs) (g : RdT encN 1 w B ls) (hbt : RdT encN 1 w C but) (hc : rs.length ≤ c) (hd : ls.length ≤ d) (hb : but.length ≤ b) (hcm : c ≤ 9223372036854775807) (hdm : d ≤ 9223372036854775807) (hbm : b ≤ 9223372036854775807) :
    Calls Try.prog 8 #[.agg #[.slice A rs.length c, .slice B ls.length d], .int .i64 f, .slice C but.length b] w fun e w' => e = .returned (.int .i64 (findOf rs ls but f)) ∧ Below w.heap.size w w' := by
  have HBa := Lib.hid (below_alloc (Below.refl w.heap.size w) (.cells #[.slice A rs.length c, .slice B ls.length d] 27))
  have HS := Lib.hid (spaceOk_any _ A B c d rs ls (h.below HBa.out) (g.below HBa.out) hc hd hcm hdm)
  have HR := Lib.hid h
  have HT := Lib.hid hbt
  clear h g hbt
  cases hok : spaceB rs ls
  · rw [hok] at HS
    have E := Lib.hid (findOf_no (but := but) (f := f) hok)
    go_enter Try.func8, Try.ntmps8
    go_wp2_with fail
    refine Calls.mono HS.out ?_
    rintro e w1 ⟨rfl, hB1⟩
    have HB1 := Lib.hid (below_below HBa.out hB1)
    clear hB1
    go_wp2_with fail
    go_ret
    exact ⟨ret_int E.out.symm, HB1.out⟩
  · rw [hok] at HS
    obtain ⟨e1, e2, e3⟩ := findOf_yes (but := but) (f := f) hok
    rw [e1]
    have HF := Lib.hid (fromOf_in f)
    have HW := Lib.hid (isRow_any f)
    have L1 := Lib.hid e2
    rw [e2, e3] at HS HBa
    rw [e2] at hc
    rw [e3] at hd
    rw [e2, e3]
    generalize hR : findAt rs but (fromOf f) 56 0 = R
    have HR0 := Lib.hid (show Left rs but (fromOf f) R 0 from hR)
    clear hR e1 e2 e3 hok
    cases hin : inB f 8 63
    · rw [hin] at HW
      have hfo : fromOf f = 8 := by rw [fromOf, hin, if_neg (by decide)]
      rw [hfo] at HF HR0
      have f1 : (8 : Int) ≤ 8 := HF.out.1
      have f2 : (8 : Int) ≤ 63 := HF.out.2
      clear hfo HF hin
      go_enter Try.func8, Try.ntmps8
      go_wp2_with fail
      refine Calls.mono HS.out ?_
      rintro e w1 ⟨rfl, hB1⟩
      have HB1 := Lib.hid (below_below HBa.out hB1)
      have HR1 := Lib.hid (HR.out.below HB1.out)
      have HT1 := Lib.hid (HT.out.below HB1.out)
      obtain ⟨c1, f1'⟩ := bcell hB1
      have hz1 : w.heap.size < w1.heap.size := (by have := hB1.size; simp at this; omega)
      clear hB1
      go_wp2_with fail
      refine Calls.mono (HW.out _) ?_
      rintro e w' ⟨rfl, rfl⟩
      go_wp2_with fail
      go_loopw [15] (fun v wr => ∃ k : Nat, k ≤ 56 ∧ v = .int .i64 k ∧ Hid (Left rs but 8 R k) ∧ w1 = wr) (fun v _ => 56 - (intOf v).toNat)
      case atStart => exact ⟨0, Nat.zero_le _, rfl, HR0, rfl⟩
      case round =>
        obtain ⟨k, hk, rfl, HK, rfl⟩ := hrel
        by_cases hlt : k < 56
        · obtain ⟨p1, p2⟩ := place_eq f1 f2 k
          obtain ⟨b1, off, rfl, hb1, c0⟩ := num_at (k := placeAt 8 k) HR1.out (by rw [L1.out]; exact p2)
          have HIT := Lib.hid (left_hit hlt HK.out)
          have NO := Lib.hid (left_no hlt HK.out)
          have w1' : IntKind.i64.wrap ((8 : Int) - 8) = (8 : Int) - 8 := IntWalk.i64_in _ (by omega)
          have w2' : IntKind.i64.wrap ((8 : Int) - 8 + (k : Int)) = (8 : Int) - 8 + (k : Int) := IntWalk.i64_in _ (by omega)
          have p3 : IntKind.i64.wrap ((8 : Int) + ((8 : Int) - 8 + (k : Int)) % 56) = (8 : Int) + ((8 : Int) - 8 + (k : Int)) % 56 := IntWalk.i64_in _ (by omega)
          have p4 : (8 : Int) + (k : Int) % 56 = (placeAt 8 k : Int) := by have := p1; simpa using this
          have p5 : (8 : Int) - 8 + (k : Int) = (k : Int) := by omega
          generalize hpl : placeAt 8 k = a at *
          generalize rs.getD a 0 = n at *
          have HC := Lib.hid (containsN_any w1 C b but (a : Int) HT1.out (by omega))
          by_cases hn : n = 0
          · have n1 : (n == 0) = true := by simpa using hn
            cases hct : but.contains (a : Int)
            · have E := Lib.hid (HIT.out hn hct)
              rw [hct] at HC
              clear HIT NO hn
              go_wp2_with fail
              refine Calls.mono HC.out ?_
              rintro e w' ⟨rfl, rfl⟩
              go_wp2_with fail
              go_ret
              exact ⟨ret_int E.out, HB1.out⟩
            · have HK2 := Lib.hid (NO.out (.inr hct))
              rw [hct] at HC
              clear HIT NO hn
              go_wp2_with fail
              refine Calls.mono HC.out ?_
              rintro e w' ⟨rfl, rfl⟩
              go_wp2_with fail
              go_roundw
              case rel => exact ⟨k + 1, by omega, by go_num, HK2, by trivial⟩
              case measure => simp [intOf]; omega
          · have n1 : (n == 0) = false := by simpa using hn
            have HK2 := Lib.hid (NO.out (.inl hn))
            clear HIT NO hn
            go_wp2_with fail
            go_roundw
            case rel => exact ⟨k + 1, by omega, by go_num, HK2, by trivial⟩
            case measure => simp [intOf]; omega
        · obtain rfl : k = 56 := by omega
          have E := Lib.hid (left_end HK.out)
          go_wp2_with fail
          go_ret
          exact ⟨ret_int E.out, HB1.out⟩
    · rw [hin] at HW
      have hfo : fromOf f = f := by rw [fromOf, hin, if_pos rfl]
      rw [hfo] at HF HR0
      have f1 : (8 : Int) ≤ f := HF.out.1
      have f2 : (f : Int) ≤ 63 := HF.out.2
      clear hfo HF hin
      go_enter Try.func8, Try.ntmps8
      go_wp2_with fail
      refine Calls.mono HS.out ?_
      rintro e w1 ⟨rfl, hB1⟩
      have HB1 := Lib.hid (below_below HBa.out hB1)
      have HR1 := Lib.hid (HR.out.below HB1.out)
      have HT1 := Lib.hid (HT.out.below HB1.out)
      obtain ⟨c1, f1'⟩ := bcell hB1
      have hz1 : w.heap.size < w1.heap.size := (by have := hB1.size; simp at this; omega)
      clear hB1
      go_wp2_with fail
      refine Calls.mono (HW.out _) ?_
      rintro e w' ⟨rfl, rfl⟩
      go_wp2_with fail
      go_loopw [15] (fun v wr => ∃ k : Nat, k ≤ 56 ∧ v = .int .i64 k ∧ Hid (Left rs but f R k) ∧ w1 = wr) (fun v _ => 56 - (intOf v).toNat)
      case atStart => exact ⟨0, Nat.zero_le _, rfl, HR0, rfl⟩
      case round =>
        obtain ⟨k, hk, rfl, HK, rfl⟩ := hrel
        by_cases hlt : k < 56
        · obtain ⟨p1, p2⟩ := place_eq f1 f2 k
          obtain ⟨b1, off, rfl, hb1, c0⟩ := num_at (k := placeAt f k) HR1.out (by rw [L1.out]; exact p2)
          have HIT := Lib.hid (left_hit hlt HK.out)
          have NO := Lib.hid (left_no hlt HK.out)
          have w1' : IntKind.i64.wrap ((f : Int) - 8) = (f : Int) - 8 := IntWalk.i64_in _ (by omega)
          have w2' : IntKind.i64.wrap ((f : Int) - 8 + (k : Int)) = (f : Int) - 8 + (k : Int) := IntWalk.i64_in _ (by omega)
          have p3 : IntKind.i64.wrap ((8 : Int) + ((f : Int) - 8 + (k : Int)) % 56) = (8 : Int) + ((f : Int) - 8 + (k : Int)) % 56 := IntWalk.i64_in _ (by omega)
          generalize hpl : placeAt f k = a at *
          generalize rs.getD a 0 = n at *
          have HC := Lib.hid (containsN_any w1 C b but (a : Int) HT1.out (by omega))
          by_cases hn : n = 0
          · have n1 : (n == 0) = true := by simpa using hn
            cases hct : but.contains (a : Int)
            · have E := Lib.hid (HIT.out hn hct)
              rw [hct] at HC
              clear HIT NO hn
              go_wp2_with fail
              refine Calls.mono HC.out ?_
              rintro e w' ⟨rfl, rfl⟩
              go_wp2_with fail
              go_ret
              exact ⟨ret_int E.out, HB1.out⟩
            · have HK2 := Lib.hid (NO.out (.inr hct))
              rw [hct] at HC
              clear HIT NO hn
              go_wp2_with fail
              refine Calls.mono HC.out ?_
              rintro e w' ⟨rfl, rfl⟩
              go_wp2_with fail
              go_roundw
              case rel => exact ⟨k + 1, by omega, by go_num, HK2, by trivial⟩
              case measure => simp [intOf]; omega
          · have n1 : (n == 0) = false := by simpa using hn
            have HK2 := Lib.hid (NO.out (.inl hn))
            clear HIT NO hn
            go_wp2_with fail
            go_roundw
            case rel => exact ⟨k + 1, by omega, by go_num, HK2, by trivial⟩
            case measure => simp [intOf]; omega
        · obtain rfl : k = 56 := by omega
          have E := Lib.hid (left_end HK.out)
          go_wp2_with fail
          go_ret
          exact ⟨ret_int E.out, HB1.out⟩

end Go.Proofs.Ytnejbeblkjfcbaa
