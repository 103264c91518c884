/- A pointer's text read out of a store: both texts. -/
import Derived.Test.YtomofiklodojeaaSum
import Derived.Test.YtomofiklodojeaaStoreHelp
import Derived.Test.YtomofiklodojeaaBox
namespace Go.Proofs.Ytomofiklodojeaa
open Go.RowKit Go.Sort
set_option maxRecDepth 100000
set_option linter.unusedVariables false
set_option linter.unusedSimpArgs false

/-- The row of a pointer; whether the pointer leads to a text; the text. -/
def rowAt (rows : List ByteArray) (p : Pt) : ByteArray := rows.getD p.at_.toNat ⟨#[]⟩
def readB (rows : List ByteArray) (p : Pt) : Bool := holeB p || fitsB p (rowAt rows p)
def readT (rows : List ByteArray) (p : Pt) : ByteArray := if holeB p = true then ⟨#[]⟩ else if fitsB p (rowAt rows p) = true then rowAt rows p else ⟨#[]⟩

theorem ptr_row {p : Pt} (hb : ptrB p = true) (hh : holeB p = false) : 8 ≤ p.at_ ∧ p.at_ ≤ 63 := by
  simp only [ptrB, hh, Bool.false_or, Bool.and_eq_true] at hb
  exact inB_true hb.1
theorem str_at {w : World} {A : Option Addr} {xs : List ByteArray} {k : Nat} (h : RdT encS 1 w A xs) (hk : k < xs.length) :
    ∃ b off, A = some ⟨b, off, none⟩ ∧ b < w.heap.size ∧ w.cell? ⟨b, off + k, none⟩ = some (.string (xs.getD k ⟨#[]⟩)) := by
  obtain ⟨b, off, s, rfl, hb, he, c⟩ := h.str hk
  refine ⟨b, off, rfl, hb, ?_⟩
  rw [c]
  have : xs.getD k ⟨#[]⟩ = s := by simp [List.getD, he]
  rw [this]
theorem rowAt_size {rows : List ByteArray} (hz : ∀ x ∈ rows, x.size ≤ 9223372036854775807) (p : Pt) : (rowAt rows p).size ≤ 9223372036854775807 := by
  unfold rowAt
  rw [List.getD_eq_getElem?_getD]
  cases h : rows[p.at_.toNat]? with
  | none => show (0 : Nat) ≤ _; omega
  | some x => exact hz x (List.mem_of_getElem? h)

set_option maxHeartbeats 2000000 in
theorem read_any (w : World) (sb : Nat) (R : Option Addr) (nR cR : Nat) (v1 v2 v3 v4 v5 v6 v7 : Value) (rows : List ByteArray) (p : Pt) (hB : BoxAt w sb #[.slice R nR cR, v1, v2, v3, v4, v5, v6, v7] 47) (h : RdT encS 1 w R rows) (hl : rows.length = nR) (h64 : nR = 64) (hz : ∀ x ∈ rows, x.size ≤ 9223372036854775807) (hp : ptrB p = true) :
    Calls Try.prog 78 #[.pointer (some ⟨sb, 0, none⟩), p.v] w fun e w' => e = .returned (.tuple #[.string (readT rows p), .bool (readB rows p)]) ∧ Below w.heap.size w w' := by
  have HB := Lib.hid hB
  have hc := hB.cell
  have hlt := hB.lt
  have HR := Lib.hid h
  have HL := Lib.hid hl
  have HH := Lib.hid (ptrHole_any p)
  have HF := Lib.hid (fun w => ptrFits_any p (rowAt rows p) w (rowAt_size hz p))
  have HPI := Lib.hid (fun hh => ptr_row hp hh)
  have HBp := Lib.hid (below_alloc (Below.refl w.heap.size w) (.cells #[.int .i64 p.at_, .int .i64 p.birth, .int .i64 p.size, .int .i64 p.sum, .int .i64 p.level] 41))
  subst h64
  clear hB h hl hz hp
  unfold readT readB
  cases hho : holeB p
  · obtain ⟨hp1, hp2⟩ := HPI.out hho
    rw [hho] at HH
    have HX := Lib.hid (fun W (hW : Below w.heap.size w W) => str_at (k := p.at_.toNat) (HR.out.below hW) (by rw [HL.out]; omega))
    change Hid (∀ W, Below w.heap.size w W → ∃ b off, R = some ⟨b, off, none⟩ ∧ b < W.heap.size ∧ W.cell? ⟨b, off + p.at_.toNat, none⟩ = some (.string (rowAt rows p))) at HX
    have hp0 : (0 : Int) ≤ p.at_ := by omega
    have hp64 : p.at_ < 64 := by omega
    have HPV := Lib.hid (show p.v = .agg #[.int .i64 p.at_, .int .i64 p.birth, .int .i64 p.size, .int .i64 p.sum, .int .i64 p.level] from rfl)
    rw [HPV.out] at HH HF
    rw [HPV.out]
    obtain ⟨b0, off, rfl, _, _⟩ := HX.out w (Below.refl _ _)
    clear hho HPI
    cases hf : fitsB p (rowAt rows p)
    · rw [hf] at HF
      clear hf
      generalize rowAt rows p = row at *
      go_enter Try.func78, Try.ntmps78
      go_wp2_with fail
      refine Calls.mono (HH.out _) ?_
      rintro e w1 ⟨rfl, hB⟩
      have BX1 := Lib.hid ((box_new w #[.int .i64 p.at_, .int .i64 p.birth, .int .i64 p.size, .int .i64 p.sum, .int .i64 p.level] 41).below hB)
      have SB1 := Lib.hid ((HB.out.alloc _).below hB)
      have HB1 := Lib.hid (below_below HBp.out hB)
      have bx1 := BX1.out.cell
      have sb1 := SB1.out.cell
      have hl1 := BX1.out.lt
      have hs1 := SB1.out.lt
      obtain ⟨b, off', hA, hb1, hr1⟩ := HX.out w1 HB1.out
      cases hA
      clear hB hc
      go_wp2_with fail
      refine wp_quiet_b (by kernel_rfl) (by kernel_rfl) (fun hgrow => ?_)
      repeat (go_big_quiet_step ((go_at_call 50; exact quiet_b (HF.out _))))
      refine wpQuiet_nil ?_
      intro w2 hww2
      replace hww2 := below_of_regrown hww2
      clear hgrow
      have HB2 := Lib.hid (below_below HB1.out hww2)
      clear hww2
      go_wp2_with fail
      go_ret2
      exact ⟨rfl, HB2.out⟩
    · rw [hf] at HF
      clear hf
      generalize rowAt rows p = row at *
      go_enter Try.func78, Try.ntmps78
      go_wp2_with fail
      refine Calls.mono (HH.out _) ?_
      rintro e w1 ⟨rfl, hB⟩
      have BX1 := Lib.hid ((box_new w #[.int .i64 p.at_, .int .i64 p.birth, .int .i64 p.size, .int .i64 p.sum, .int .i64 p.level] 41).below hB)
      have SB1 := Lib.hid ((HB.out.alloc _).below hB)
      have HB1 := Lib.hid (below_below HBp.out hB)
      have bx1 := BX1.out.cell
      have sb1 := SB1.out.cell
      have hl1 := BX1.out.lt
      have hs1 := SB1.out.lt
      obtain ⟨b, off', hA, hb1, hr1⟩ := HX.out w1 HB1.out
      cases hA
      clear hB hc
      go_wp2_with fail
      refine wp_quiet_b (by kernel_rfl) (by kernel_rfl) (fun hgrow => ?_)
      repeat (go_big_quiet_step ((go_at_call 50; exact quiet_b (HF.out _))))
      refine wpQuiet_nil ?_
      intro w2 hww2
      replace hww2 := below_of_regrown hww2
      clear hgrow
      have BX2 := Lib.hid (BX1.out.below hww2)
      have SB2 := Lib.hid (SB1.out.below hww2)
      have HB2 := Lib.hid (below_below HB1.out hww2)
      have bx2 := BX2.out.cell
      have sb2 := SB2.out.cell
      have hl2 := BX2.out.lt
      have hs2 := SB2.out.lt
      obtain ⟨b, off', hA, hb2, hr2⟩ := HX.out w2 HB2.out
      cases hA
      clear hww2 bx1 sb1 hr1
      go_wp2_with fail
      refine wp_quiet_b (by kernel_rfl) (by kernel_rfl) (fun hgrow => ?_)
      repeat (go_big_quiet_step (fail))
      refine wpQuiet_nil ?_
      intro w3 hww3
      replace hww3 := below_of_regrown hww3
      clear hgrow
      have HB3 := Lib.hid (below_below HB2.out hww3)
      clear hww3
      go_wp2_with fail
      go_ret2
      exact ⟨rfl, HB3.out⟩
  · rw [hho] at HH
    clear hho HPI HF HR HL
    have HPV := Lib.hid (show p.v = .agg #[.int .i64 p.at_, .int .i64 p.birth, .int .i64 p.size, .int .i64 p.sum, .int .i64 p.level] from rfl)
    rw [HPV.out] at HH
    rw [HPV.out]
    go_enter Try.func78, Try.ntmps78
    go_wp2_with fail
    refine Calls.mono (HH.out _) ?_
    rintro e w1 ⟨rfl, hB⟩
    have HB1 := Lib.hid (below_below HBp.out hB)
    clear hB
    go_wp2_with fail
    go_ret2
    exact ⟨rfl, HB1.out⟩

set_option maxHeartbeats 2000000 in
theorem l7Read_any (w : World) (R : Option Addr) (nR cR : Nat) (A B G D : Option Addr) (nA cA nB cB nG cG nD cD : Nat) (t k : Int) (sm : Bool) (rows : List ByteArray) (p : Pt) (h : RdT encS 1 w R rows) (hl : rows.length = nR) (h64 : nR = 64) (hz : ∀ x ∈ rows, x.size ≤ 9223372036854775807) (hp : ptrB p = true) :
    Calls Try.prog 77 #[.agg #[.slice R nR cR, .slice A nA cA, .slice B nB cB, .int .i64 t, .slice G nG cG, .int .i64 k, .slice D nD cD, .bool sm], p.v] w fun e w' => e = .returned (.tuple #[.string (readT rows p), .bool (readB rows p)]) ∧ Below w.heap.size w w' := by
  have HR := Lib.hid h
  have HL := Lib.hid hl
  have HH := Lib.hid (specPtrHole_any p)
  have HF := Lib.hid (fun w => specPtrFits_any p (rowAt rows p) w (rowAt_size hz p))
  have HPI := Lib.hid (fun hh => ptr_row hp hh)
  have HBp := Lib.hid (below_alloc (below_alloc (Below.refl w.heap.size w) (.cells #[.slice R nR cR, .slice A nA cA, .slice B nB cB, .int .i64 t, .slice G nG cG, .int .i64 k, .slice D nD cD, .bool sm] 47)) (.cells #[.int .i64 p.at_, .int .i64 p.birth, .int .i64 p.size, .int .i64 p.sum, .int .i64 p.level] 41))
  have S0 := Lib.hid ((box_new w #[.slice R nR cR, .slice A nA cA, .slice B nB cB, .int .i64 t, .slice G nG cG, .int .i64 k, .slice D nD cD, .bool sm] 47).alloc (.cells #[.int .i64 p.at_, .int .i64 p.birth, .int .i64 p.size, .int .i64 p.sum, .int .i64 p.level] 41))
  have P0 := Lib.hid (box_new (w.alloc (.cells #[.slice R nR cR, .slice A nA cA, .slice B nB cB, .int .i64 t, .slice G nG cG, .int .i64 k, .slice D nD cD, .bool sm] 47)) #[.int .i64 p.at_, .int .i64 p.birth, .int .i64 p.size, .int .i64 p.sum, .int .i64 p.level] 41)
  rw [World.size_alloc] at P0
  subst h64
  clear h hl hz hp
  unfold readT readB
  have HPV := Lib.hid (show p.v = .agg #[.int .i64 p.at_, .int .i64 p.birth, .int .i64 p.size, .int .i64 p.sum, .int .i64 p.level] from rfl)
  rw [HPV.out] at HH HF
  rw [HPV.out]
  cases hho : holeB p
  · obtain ⟨hp1, hp2⟩ := HPI.out hho
    rw [hho] at HH
    have HX := Lib.hid (fun W (hW : Below w.heap.size w W) => str_at (k := p.at_.toNat) (HR.out.below hW) (by rw [HL.out]; omega))
    change Hid (∀ W, Below w.heap.size w W → ∃ b off, R = some ⟨b, off, none⟩ ∧ b < W.heap.size ∧ W.cell? ⟨b, off + p.at_.toNat, none⟩ = some (.string (rowAt rows p))) at HX
    have hp0 : (0 : Int) ≤ p.at_ := by omega
    have hp64 : p.at_ < 64 := by omega
    obtain ⟨b0, off, rfl, _, _⟩ := HX.out w (Below.refl _ _)
    clear hho HPI
    cases hf : fitsB p (rowAt rows p)
    all_goals
      rw [hf] at HF
      clear hf
      generalize rowAt rows p = row at *
      go_enter Try.func77, Try.ntmps77
      go_wp2_with fail
      refine Calls.mono (HH.out _) ?_
      rintro e w1 ⟨rfl, hB⟩
      have BX1 := Lib.hid (P0.out.below hB)
      have SB1 := Lib.hid (S0.out.below hB)
      have HB1 := Lib.hid (below_below HBp.out hB)
      have bx1 := BX1.out.cell
      have sb1 := SB1.out.cell
      have hl1 := BX1.out.lt
      have hs1 := SB1.out.lt
      obtain ⟨b, off', hA, hb1, hr1⟩ := HX.out w1 HB1.out
      cases hA
      clear hB
      go_wp2_with fail
      refine wp_quiet_b (by kernel_rfl) (by kernel_rfl) (fun hgrow => ?_)
      repeat (go_big_quiet_step ((go_at_call 106; exact quiet_b (HF.out _))))
      refine wpQuiet_nil ?_
      intro w2 hww2
      replace hww2 := below_of_regrown hww2
      clear hgrow
      have BX2 := Lib.hid (BX1.out.below hww2)
      have SB2 := Lib.hid (SB1.out.below hww2)
      have HB2 := Lib.hid (below_below HB1.out hww2)
      have bx2 := BX2.out.cell
      have sb2 := SB2.out.cell
      have hl2 := BX2.out.lt
      have hs2 := SB2.out.lt
      obtain ⟨b, off', hA, hb2, hr2⟩ := HX.out w2 HB2.out
      cases hA
      clear hww2 bx1 sb1 hr1
      go_wp2_with fail
      go_ret2
      exact ⟨rfl, HB2.out⟩
  · rw [hho] at HH
    clear hho HPI HF HR HL
    go_enter Try.func77, Try.ntmps77
    go_wp2_with fail
    refine Calls.mono (HH.out _) ?_
    rintro e w1 ⟨rfl, hB⟩
    have HB1 := Lib.hid (below_below HBp.out hB)
    clear hB
    go_wp2_with fail
    go_ret2
    exact ⟨rfl, HB1.out⟩

end Go.Proofs.Ytomofiklodojeaa
