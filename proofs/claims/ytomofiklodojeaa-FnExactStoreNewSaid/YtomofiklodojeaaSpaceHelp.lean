/- The laws' own helpers over space; the argument opened. -/
import Derived.Test.YtomofiklodojeaaSpace2
import Derived.Test.YtomofiklodojeaaTrod
namespace Go.Proofs.Ytomofiklodojeaa
open Go.RowKit
set_option maxRecDepth 100000
set_option linter.unusedVariables false
set_option linter.unusedSimpArgs false

def SzN (w : World) (left : Int) (n : Nat) (e : Ending) (w' : World) : Prop := ∃ r : Int, e = .returned (.int .i64 r) ∧ -1 ≤ r ∧ r ≤ left ∧ (0 ≤ r → r + (n : Int) = left) ∧ w = w'

theorem szIntS_any (w : World) (A : Option Addr) (n c : Nat) (left : Int) (hn : n ≤ 9223372036854775807) (h0 : 0 ≤ left) (h1 : left ≤ 1048576) :
    Calls Try.prog 104 #[.slice A n c, .int .i64 left] w (SzN w left n) := by
  by_cases h : left - (n : Int) < 0
  · go_enter Try.func104, Try.ntmps104
    go_wp2
    go_ret
    exact ⟨-1, rfl, by omega, by omega, by omega, rfl⟩
  · go_enter Try.func104, Try.ntmps104
    go_wp2
    go_ret
    exact ⟨left - n, rfl, by omega, by omega, by omega, rfl⟩

def SzSp (w : World) (left : Int) (n m : Nat) (e : Ending) (w' : World) : Prop := ∃ r : Int, e = .returned (.int .i64 r) ∧ (0 ≤ r → (n : Int) ≤ left ∧ (m : Int) ≤ left) ∧ Below w.heap.size w w'

theorem szSpace_any (w : World) (A B : Option Addr) (n c m d : Nat) (left : Int) (hn : n ≤ 9223372036854775807) (hm : m ≤ 9223372036854775807) (h0 : 0 ≤ left) (h1 : left ≤ 1048576) :
    Calls Try.prog 70 #[.agg #[.slice A n c, .slice B m d], .int .i64 left] w (SzSp w left n m) := by
  have HBa := Lib.hid (below_alloc (Below.refl w.heap.size w) (.cells #[.slice A n c, .slice B m d] 52))
  go_enter Try.func70, Try.ntmps70
  go_wp2_with fail
  refine Calls.mono (szIntS_any _ A n c left hn h0 h1) ?_
  rintro e w' ⟨r, rfl, hr0, hr1, hr2, rfl⟩
  by_cases hneg : r < 0
  · go_wp2_with fail
    go_ret
    exact ⟨-1, rfl, by omega, HBa.out⟩
  · go_wp2_with fail
    refine Calls.mono (szIntS_any _ B m d r hm (by omega) (by omega)) ?_
    rintro e w' ⟨r2, rfl, hs0, hs1, hs2, rfl⟩
    by_cases hneg2 : r2 < 0
    · go_wp2_with fail
      go_ret
      exact ⟨-1, rfl, by omega, HBa.out⟩
    · go_wp2_with fail
      go_ret
      exact ⟨r2, rfl, fun _ => ⟨by omega, by omega⟩, HBa.out⟩

def SpPost (w : World) (rs ls : List Int) (e : Ending) (w' : World) : Prop := ∃ A c B d, e = .returned (.agg #[.slice A rs.length c, .slice B ls.length d]) ∧ rs.length ≤ c ∧ c ≤ 9223372036854775807 ∧ ls.length ≤ d ∧ d ≤ 9223372036854775807 ∧ RdT encN 1 w' A rs ∧ RdT encN 1 w' B ls ∧ Below w.heap.size w w'

set_option maxHeartbeats 2000000 in
theorem toSpace_any (w : World) (A B : Option Addr) (c d : Nat) (rs ls : List Int) (h : RdT encN 1 w A rs) (g : RdT encN 1 w B ls) (hc : rs.length ≤ c) (hd : ls.length ≤ d) (hn : rs.length ≤ 1048576) (hm : ls.length ≤ 1048576) :
    Calls Try.prog 74 #[.agg #[.slice A rs.length c, .slice B ls.length d]] w (SpPost w rs ls) := by
  have HR := Lib.hid h
  have HG := Lib.hid g
  clear h g
  go_enter Try.func74, Try.ntmps74
  go_wp2_with fail
  have HBw := Lib.hid (below_alloc (below_alloc (below_alloc (Below.refl w.heap.size w) (.cells #[.slice A rs.length c, .slice B ls.length d] 52)) (.cells #[.slice none 0 0, .slice none 0 0] 27)) (.cells #[.slice none 0 0, .slice none 0 0] 27))
  refine Calls.mono (toIntS_any _ A c rs (HR.out.below HBw.out) hc hn) ?_
  rintro e w1 ⟨v1, rfl, hO1, hB1⟩
  obtain ⟨A1, cap1, rfl, hc1, hm1, hge1, hR1⟩ := hO1.form
  have HB1 := Lib.hid (below_below HBw.out hB1)
  have HR1 := Lib.hid hR1
  have HG1 := Lib.hid hge1
  obtain ⟨c1, f1⟩ := bcell hB1
  have hz1 : w.heap.size + 1 + 1 < w1.heap.size := by have := hB1.size; simp at this; omega
  have hy1 : w.heap.size + 1 < w1.heap.size := by omega
  have hx1 : w.heap.size < w1.heap.size := by omega
  clear hB1 hO1 hR1 hge1
  go_wp2_with fail
  have HBs := Lib.hid (below_set HB1.out (p := ⟨w.heap.size + 1 + 1, 0, none⟩) (by dsimp only; omega) (.slice A1 rs.length cap1))
  have hS1 : (w1.setCell ⟨w.heap.size + 1 + 1, 0, none⟩ (.slice A1 rs.length cap1)).heap.size = w1.heap.size := World.size_setCell _ _ _
  refine Calls.mono (toIntS_any _ B d ls (HG.out.below HBs.out) hd hm) ?_
  rintro e w2 ⟨v2, rfl, hO2, hB2⟩
  obtain ⟨A2, cap2, rfl, hc2, hm2, hge2, hR2⟩ := hO2.form
  have HB2 := Lib.hid (below_below HBs.out hB2)
  have hz2 : w.heap.size + 1 + 1 < w2.heap.size := by have := hB2.size; rw [hS1] at this; omega
  have hy2 : w.heap.size + 1 < w2.heap.size := by omega
  have HR2 := Lib.hid hR2
  have HG2 := Lib.hid hge2
  have HK := Lib.hid (Kp.of_below hB2)
  obtain ⟨c2, f2⟩ := bcell hB2
  rw [hS1] at c2 f2
  clear hB2 hO2 hR2 hge2
  have k1 : Kp [w.heap.size + 1, w.heap.size + 1 + 1] w1 (w1.setCell ⟨w.heap.size + 1 + 1, 0, none⟩ (.slice A1 rs.length cap1)) := (Kp.refl _ _).setCell (.inl (by simp)) _
  have HK2 := Lib.hid (k1.trans (HK.out.all _))
  clear k1
  go_wp2_with fail
  have HKf := Lib.hid ((((Kp.refl [w.heap.size + 1, w.heap.size + 1 + 1] w2).setCell (p := ⟨w.heap.size + 1 + 1, 1, none⟩) (.inl (by simp)) (.slice A2 ls.length cap2)).setCell (p := ⟨w.heap.size + 1, 0, none⟩) (.inl (by simp)) (.slice A1 rs.length cap1)).setCell (p := ⟨w.heap.size + 1, 1, none⟩) (.inl (by simp)) (.slice A2 ls.length cap2))
  have HBf := Lib.hid (below_set (below_set (below_set HB2.out (p := ⟨w.heap.size + 1 + 1, 1, none⟩) (by dsimp only; omega) (.slice A2 ls.length cap2)) (p := ⟨w.heap.size + 1, 0, none⟩) (by dsimp only; omega) (.slice A1 rs.length cap1)) (p := ⟨w.heap.size + 1, 1, none⟩) (by dsimp only; omega) (.slice A2 ls.length cap2))
  have HRf := (HR1.out.kp (HK2.out.trans HKf.out) (fun _ a ha => by have := (HG1.out a ha).1; simp at this; simp; omega))
  have HRg := (HR2.out.kp HKf.out (fun _ a ha => by have := (HG2.out a ha).1; rw [hS1] at this; simp; omega))

  refine bodyPost_ret (v := .agg #[.slice A1 rs.length cap1, .slice A2 ls.length cap2]) (by simp [results, Try.results74, go_sem, c2, c1, hy1, hx1]) rfl ⟨A1, cap1, A2, cap2, rfl, hc1, hm1, hc2, hm2, HRf, HRg, HBf.out⟩

set_option maxHeartbeats 2000000 in
theorem eqSpace_true (w : World) (A B A' B' : Option Addr) (c d c' d' : Nat) (rs ls : List Int) (hA : RdT encN 1 w A rs) (hB : RdT encN 1 w B ls) (hA' : RdT encN 1 w A' rs) (hB' : RdT encN 1 w B' ls)
    (hc : rs.length ≤ c) (hd : ls.length ≤ d) (hc' : rs.length ≤ c') (hd' : ls.length ≤ d') (hm : c ≤ 9223372036854775807) (hn : d ≤ 9223372036854775807) :
    Calls Try.prog 18 #[.agg #[.slice A rs.length c, .slice B ls.length d], .agg #[.slice A' rs.length c', .slice B' ls.length d']] w fun e w' => e = .returned (.bool true) ∧ Below w.heap.size w w' := by
  have HA := Lib.hid hA
  have HB := Lib.hid hB
  have HA' := Lib.hid hA'
  have HB' := Lib.hid hB'
  clear hA hB hA' hB'
  have HBw := Lib.hid (below_alloc (below_alloc (Below.refl w.heap.size w) (.cells #[.slice A rs.length c, .slice B ls.length d] 27)) (.cells #[.slice A' rs.length c', .slice B' ls.length d'] 27))
  go_enter Try.func18, Try.ntmps18
  go_wp2_with fail
  refine Calls.mono (eqIntS_true _ A A' c c' rs (HA.out.below HBw.out) (HA'.out.below HBw.out) hc hc' hm) ?_
  rintro e w1 ⟨rfl, hB1⟩
  have HB1 := Lib.hid (below_below HBw.out hB1)
  obtain ⟨c1, f1⟩ := bcell hB1
  have hz1 : w.heap.size + 1 < w1.heap.size := by have := hB1.size; simp at this; omega
  have hx1 : w.heap.size < w1.heap.size := by omega
  clear hB1
  go_wp2_with fail
  refine Calls.mono (eqIntS_true _ B B' d d' ls (HB.out.below HB1.out) (HB'.out.below HB1.out) hd hd' hn) ?_
  rintro e w2 ⟨rfl, hB2⟩
  have HB2 := Lib.hid (below_below HB1.out hB2)
  clear hB2
  go_wp2_with fail
  go_ret
  exact ⟨rfl, HB2.out⟩

section
open Go.ChangeShapes Go.WideShapes Go.ChangeAt
/-- A space that came in. -/
theorem open_space {H : Type} {enc : TypeId × Value → H} {W : World} {r : Reach} {b0 base : Nat} {v : Value} {dd : DataW H} {p : List MemPlace} (hval : Value.okWide Try.prog W r b0 52 v) (h : DataW.Trod enc Try.prog W base (fun _ => true) true 52 v dd p) :
    ∃ A c B d rs ls, v = .agg #[.slice A (List.length rs) c, .slice B (List.length ls) d] ∧ rs.length ≤ c ∧ ls.length ≤ d ∧ c ≤ 9223372036854775807 ∧ d ≤ 9223372036854775807 ∧ RdT encN 1 W A rs ∧ RdT encN 1 W B ls := by
  have c1 : Try.prog.cellsOf 25 = 1 := by kernel_rfl
  have c2 : Try.prog.cellsOf 52 = 2 := by kernel_rfl
  obtain ⟨⟨cs⟩, rfl, hsz⟩ := okWide_struct Try.underlying52 hval
  obtain ⟨fuel, hf⟩ := h
  have hsz' : cs.length = 2 := by rw [← c2]; exact hsz
  match cs, hsz' with
  | [x0, x1], _ =>
    replace hf : DataW.trod enc Try.prog W base (fun _ => true) true fuel 52 [x0, x1] = some (dd, p) := hf
    obtain ⟨n0, y0, t0⟩ := trod_at Try.underlying52 hf 0 rfl rfl rfl c1 rfl
    obtain ⟨n1, y1, t1⟩ := trod_at Try.underlying52 hf 1 rfl rfl rfl c1 rfl
    obtain ⟨A, c, rs, rfl, hc, hm, hr⟩ := open_nums t0
    obtain ⟨B, d, ls, rfl, hd, hn, hl⟩ := open_nums t1
    exact ⟨A, c, B, d, rs, ls, rfl, hc, hd, hm, hn, hr, hl⟩
/-- A list of numbers that came in. -/
theorem open_ints' {H : Type} {enc : TypeId × Value → H} {W : World} {r : Reach} {b0 base : Nat} {v : Value} {dd : DataW H} {p : List MemPlace} (hval : Value.okWide Try.prog W r b0 25 v) (h : DataW.Trod enc Try.prog W base (fun _ => true) true 25 v dd p) :
    ∃ (A : Option Addr) (cap : Nat) (xs : List Int), v = .slice A xs.length cap ∧ xs.length ≤ cap ∧ cap ≤ 9223372036854775807 ∧ RdT encN 1 W A xs := by
  obtain ⟨a0, len0, cap0, rfl⟩ := okWide_slice Try.underlying25 hval
  obtain ⟨fuel, hf⟩ := h
  exact open_nums (v := .slice a0 len0 cap0) hf
end

end Go.Proofs.Ytomofiklodojeaa
