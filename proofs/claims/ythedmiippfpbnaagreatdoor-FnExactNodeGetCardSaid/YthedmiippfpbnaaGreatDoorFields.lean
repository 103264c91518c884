/- Records: put, both texts. -/
import Derived.Test.YthedmiippfpbnaaGreatDoorNum
import Derived.Test.YthedmiippfpbnaaGreatDoorBuild
import Derived.Test.YthedmiippfpbnaaGreatDoorPathSpec
namespace Go.Proofs.YthedmiippfpbnaaGreatDoor
open Go.RowKit Go.Sort
set_option maxRecDepth 100000
set_option linter.unusedVariables false
set_option linter.unusedSimpArgs false
attribute [local go_sem ↓] Go.wp_at_zero Go.wp_at_succ

theorem rec_step {l : List ByteArray} {k : Nat} {s : ByteArray} (h : l[k]? = some s) : recL (l.take (k + 1)) = recL (l.take k) ++ fldL s := by
  rw [List.take_add_one, h, recL_app]
  simp [recL]
theorem rec_take_le (l : List ByteArray) (k : Nat) : (recL (l.take k)).length ≤ (recL l).length := by
  conv => rhs; rw [← List.take_append_drop k l, recL_app, List.length_append]
  omega
theorem rec_big {l : List ByteArray} {k : Nat} (h : 2048 < (recL (l.take k)).length) : recB l = false := by
  have := rec_take_le l k
  rw [recB, Bool.and_eq_false_iff]
  exact .inr (decide_eq_false (by omega))
theorem rec_long {l : List ByteArray} (h : 60 < l.length) : recB l = false := by
  rw [recB, Bool.and_eq_false_iff]
  exact .inl (decide_eq_false (by omega))
theorem rec_fits {l : List ByteArray} (h : l.length ≤ 60) (h2 : (recL l).length ≤ 2048) : recB l = true := recB_iff.2 ⟨h, h2⟩
theorem fld_len (s : ByteArray) : (fldL s).length = (decL (s.size : Int)).length + 1 + s.size := by
  have : s.data.toList.length = s.size := Array.length_toList
  rw [fldL]
  simp only [List.length_append, List.length_cons]
  omega
theorem itoa_dec {n : Int} (h : 0 ≤ n) : (⟨(Lib.itoa n).toArray⟩ : ByteArray) = decT n := by rw [itoa_nat h]; rfl

/-- What putting a record gives. -/
def recX (l : List ByteArray) : ByteArray := if recB l = true then recT l else ⟨#[]⟩
def PutR (w : World) (l : List ByteArray) (e : Ending) (w' : World) : Prop := e = .returned (.tuple #[.string (recX l), .bool (recB l)]) ∧ Below w.heap.size w w'
theorem recX_no {l : List ByteArray} (h : recB l = false) : recX l = ⟨#[]⟩ := if_neg (by simp [h])
theorem recX_yes {l : List ByteArray} (h : recB l = true) : recX l = recT l := if_pos h
theorem RdT.strs {w : World} {A : Option Addr} {xs : List ByteArray} {k : Nat} (h : RdT encS 1 w A xs) (hk : k < xs.length) :
    ∃ b off s, A = some ⟨b, off, none⟩ ∧ b < w.heap.size ∧ xs[k]? = some s ∧ w.cell? ⟨b, off + k, none⟩ = some (.string s) := by
  obtain ⟨b, off, rfl, hb, hc⟩ := h (by omega)
  have he : xs[k]? = some xs[k] := List.getElem?_eq_getElem hk
  have c := hc k _ he 0 (by omega)
  simp only [Nat.mul_one, Nat.add_zero, encS] at c
  exact ⟨b, off, xs[k], rfl, hb, he, c⟩

set_option maxHeartbeats 4000000 in
theorem fieldsPut_any (w : World) (A : Option Addr) (cap : Nat) (l : List ByteArray) (hT : TenAt w) (h : RdT encS 1 w A l) (hc : l.length ≤ cap) (hm : cap ≤ 9223372036854775807) (hz : ∀ x ∈ l, x.size ≤ 1048576) :
    Calls Tryz.prog 33 #[.slice A l.length cap] w (PutR w l) := by
  have HR := Lib.hid h
  have HT := Lib.hid hT
  have HZ := Lib.hid hz
  clear h hT hz
  unfold PutR
  by_cases h60 : 60 < l.length
  · rw [recX_no (rec_long h60), rec_long h60]
    go_enter Tryz.func33, Tryz.ntmps33
    go_wp2_with fail
    go_ret2
    exact ⟨rfl, Below.refl _ _⟩
  · have HNO := Lib.hid (fun k (h : 2048 < (recL (l.take k)).length) => (show recX l = ⟨#[]⟩ ∧ recB l = false from ⟨recX_no (rec_big h), rec_big h⟩))
    have HYES := Lib.hid (fun (h : (recL l).length ≤ 2048) => (show recX l = ofL (recL l) ∧ recB l = true from ⟨recX_yes (rec_fits (by omega) h), rec_fits (by omega) h⟩))
    generalize recX l = RX at *
    generalize recB l = RB at *
    have BN := Lib.hid (build_new w)
    have hs0 : w.heap.size ≤ w.heap.size := Nat.le_refl _
    have HBn := Lib.hid (below_alloc (Below.refl w.heap.size w) (.cells #[.pointer none, .slice none 0 0] 75))
    go_enter Tryz.func33, Tryz.ntmps33
    go_wp2_with fail
    go_loopw [12] (fun i wr => ∃ (k : Nat), k ≤ l.length ∧ i = .int .i64 k ∧ Hid ((recL (l.take k)).length ≤ 2048) ∧ Hid (BuildAt w.heap.size w.heap.size (recL (l.take k)) wr) ∧ Hid (Below w.heap.size w wr)) (fun i _ => l.length - (intOf i).toNat)
    case atStart => exact ⟨0, Nat.zero_le _, rfl, Lib.hid (by simp [recL]), Lib.hid (by simpa [recL] using BN.out), HBn⟩
    case round =>
      clear BN HBn
      obtain ⟨k, hk, rfl, HL, HS, HB⟩ := hrel
      by_cases hlt : k < l.length
      · obtain ⟨b, off, s, rfl, hb, he, c0⟩ := (HR.out.below HB.out).strs hlt
        have hsz := HZ.out s (List.mem_of_getElem? he)
        have HN := Lib.hid (rec_step he)
        have hdl := decL_len (n := (s.size : Int)) (by omega) (by omega)
        have hDz : (decT (s.size : Int)).size ≤ 9 := by rw [decT, ofL_size]; exact hdl.2
        have HI := Lib.hid (fun w hT => Tryz.strconv_Itoa (s.size : Int) (by omega) (by omega) w hT)
        rw [itoa_dec (by omega)] at HI
        have HD := Lib.hid (decT_data (s.size : Int))
        have HF := Lib.hid (show fldL s = decL (s.size : Int) ++ [58] ++ s.data.toList by simp [fldL])
        generalize decT (s.size : Int) = D at *
        have hLL := HL.out
        clear he
        go_wp2_with fail
        refine Calls.mono (HI.out _ (HT.out.below HB.out)) ?_
        rintro e w2 ⟨rfl, n2, os, rfl⟩
        have hB2 := Lib.below_grow wr.heap.size wr (Nat.le_refl _) n2 os
        have HB2 := Lib.hid (below_below HB.out hB2)
        have BW2 := Lib.hid (HS.out.below hB2)
        clear hB2 HI HS HB
        go_wp2_with fail
        refine Calls.mono (writeString_any D BW2.out (by omega)) ?_
        rintro e w3 ⟨rfl, hBD, hB3⟩
        have HB3 := Lib.hid (HB2.out.trans hB3)
        have BW3 := Lib.hid hBD
        clear hB3 hBD BW2 HB2
        go_wp2_with fail
        refine Calls.mono (writeByte_any 58 BW3.out (by rw [List.length_append, HD.out]; omega)) ?_
        rintro e w4 ⟨rfl, hBD, hB4⟩
        have HB4 := Lib.hid (HB3.out.trans hB4)
        have BW4 := Lib.hid hBD
        clear hB4 hBD BW3 HB3
        go_wp2_with fail
        refine Calls.mono (writeString_any s BW4.out (by rw [List.length_append, List.length_append, HD.out]; simp; omega)) ?_
        rintro e w5 ⟨rfl, hBD, hB5⟩
        have HB5 := Lib.hid (HB4.out.trans hB5)
        have BW5 := Lib.hid (show BuildAt w.heap.size w.heap.size (recL (l.take (k + 1))) w5 by rw [HN.out, HF.out]; rw [HD.out] at hBD; simpa using hBD)
        clear hB5 hBD BW4 HB4 HN HF HD
        go_wp2_with fail
        refine Calls.mono (buildLen_any BW5.out) ?_
        rintro e w6 ⟨rfl, rfl⟩
        by_cases hbig : 2048 < (recL (l.take (k + 1))).length
        · obtain ⟨rfl, rfl⟩ := HNO.out (k + 1) hbig
          generalize (recL (l.take (k + 1))).length = m at *
          go_wp2_with fail
          go_ret2
          exact ⟨rfl, HB5.out⟩
        · have HL2 := Lib.hid (Nat.le_of_not_lt hbig)
          have hmm : ∃ m, (recL (l.take (k + 1))).length = m := ⟨_, rfl⟩
          obtain ⟨m, hmm⟩ := hmm
          rw [hmm] at hbig ⊢
          clear hmm
          go_wp2_with fail
          go_roundw
          case rel => exact ⟨k + 1, by omega, by go_num, HL2, BW5, HB5⟩
          case measure => simp [intOf]; omega
      · obtain rfl : k = l.length := by omega
        rw [List.take_length] at HL HS
        obtain ⟨rfl, rfl⟩ := HYES.out HL.out
        go_wp2_with fail
        refine Calls.mono (buildString_any HS.out) ?_
        rintro e w2 ⟨rfl, _, hB⟩
        have HB2 := Lib.hid (HB.out.trans hB)
        clear hB
        go_wp2_with fail
        go_ret2
        exact ⟨rfl, HB2.out⟩
set_option maxHeartbeats 4000000 in
theorem specFieldsPut_any (w : World) (A : Option Addr) (cap : Nat) (l : List ByteArray) (h : RdT encS 1 w A l) (hc : l.length ≤ cap) (hm : cap ≤ 9223372036854775807) (hz : ∀ x ∈ l, x.size ≤ 1048576) :
    Calls Tryz.prog 18 #[.slice A l.length cap] w (PutR w l) := by
  have HR := Lib.hid h
  have HZ := Lib.hid hz
  clear h hz
  unfold PutR
  by_cases h60 : 60 < l.length
  · rw [recX_no (rec_long h60), rec_long h60]
    have h6 : ¬ (l.length : Int) ≤ 60 := by omega
    go_enter Tryz.func18, Tryz.ntmps18
    go_wp2_with fail
    go_loopw [4, 5] (fun x i wr => i = .int .i64 (0 : Nat) ∧ x = .string ⟨#[]⟩ ∧ wr = w) (fun _ _ _ => 0)
    case atStart => exact ⟨rfl, rfl, rfl⟩
    case round =>
      obtain ⟨rfl, rfl, rfl⟩ := hrel
      go_wp2_with fail
      go_ret2
      have h6d : decide ((l.length : Int) ≤ 60) = false := decide_eq_false (by omega)
      refine ⟨?_, Below.refl _ _⟩
      show Ending.returned (.tuple #[.string ⟨#[]⟩, .bool (decide ((l.length : Int) ≤ 60))]) = _
      rw [h6d]
  · have HNO := Lib.hid (fun k (h : 2048 < (recL (l.take k)).length) => (show recX l = ⟨#[]⟩ ∧ recB l = false from ⟨recX_no (rec_big h), rec_big h⟩))
    have HYES := Lib.hid (fun (h : (recL l).length ≤ 2048) => (show recX l = ofL (recL l) ∧ recB l = true from ⟨recX_yes (rec_fits (by omega) h), rec_fits (by omega) h⟩))
    generalize recX l = RX at *
    generalize recB l = RB at *
    have h6 : (l.length : Int) ≤ 60 := by omega
    go_enter Tryz.func18, Tryz.ntmps18
    go_wp2_with fail
    go_loopw [4, 5] (fun x i wr => ∃ (k : Nat) (S : ByteArray), k ≤ l.length ∧ i = .int .i64 k ∧ x = .string S ∧ S.size ≤ 2048 ∧ Hid (S = ofL (recL (l.take k))) ∧ Hid (Below w.heap.size w wr)) (fun _ i _ => l.length - (intOf i).toNat)
    case atStart => exact ⟨0, _, Nat.zero_le _, rfl, rfl, by decide, Lib.hid (by simp [recL, ofL]), Lib.hid (Below.refl _ _)⟩
    case round =>
      obtain ⟨k, S, hk, rfl, rfl, hSz, HS, HB⟩ := hrel
      by_cases hlt : k < l.length
      · obtain ⟨b, off, s, rfl, hb, he, c0⟩ := (HR.out.below HB.out).strs hlt
        have hsz := HZ.out s (List.mem_of_getElem? he)
        have HN := Lib.hid (rec_step he)
        have hdl := decL_len (n := (s.size : Int)) (by omega) (by omega)
        have hfl := fld_len s
        have HLN := Lib.hid (show (recL (l.take (k + 1))).length = S.size + (fldL s).length by rw [HN.out, List.length_append, HS.out, ofL_size])
        by_cases hs2 : 2048 < s.size
        · obtain ⟨rfl, rfl⟩ := HNO.out (k + 1) (by rw [HLN.out]; omega)
          clear HN HLN he hdl hfl
          go_wp2_with fail
          go_ret2
          exact ⟨rfl, HB.out⟩
        · have hDz : (decT (s.size : Int)).size ≤ 9 := by rw [decT, ofL_size]; exact hdl.2
          have HD := Lib.hid (fun w => dec_any s.size w (by omega))
          have HX := Lib.hid (show S ++ decT (s.size : Int) ++ ⟨#[58]⟩ ++ s = ofL (recL (l.take (k + 1))) from ofL_ext (by
            rw [ofL_data, HN.out, bytes_append, bytes_append, bytes_append, decT_data, HS.out, ofL_data, fldL]
            simp))
          have HXZ := Lib.hid (show (S ++ decT (s.size : Int) ++ ⟨#[58]⟩ ++ s).size = (recL (l.take (k + 1))).length by rw [HX.out, ofL_size])
          generalize decT (s.size : Int) = D at *
          have q1 : ¬ 9223372036854775807 < S.size + D.size := by omega
          have z1 : (⟨#[58]⟩ : ByteArray).size = 1 := rfl
          have q2 : ¬ 9223372036854775807 < S.size + D.size + (⟨#[58]⟩ : ByteArray).size := by omega
          have q3 : ¬ 9223372036854775807 < S.size + D.size + (⟨#[58]⟩ : ByteArray).size + s.size := by omega
          clear he hdl hfl z1 HN HLN
          go_wp2_with fail
          refine wp_quiet_b (by kernel_rfl) (by kernel_rfl) (fun hgrow => ?_)
          repeat (go_big_quiet_step ((go_at_call 25; exact quiet_b (HD.out _))))
          refine wpQuiet_nil ?_
          intro w2 hww2
          replace hww2 := below_of_regrown hww2
          clear hgrow
          have HB2 := Lib.hid (below_below HB.out hww2)
          clear hww2 HD HB
          by_cases hbig : 2048 < (recL (l.take (k + 1))).length
          · obtain ⟨rfl, rfl⟩ := HNO.out (k + 1) hbig
            have hb2 : 2048 < (S ++ D ++ ⟨#[58]⟩ ++ s : ByteArray).size := by rw [HXZ.out]; exact hbig
            clear hbig
            generalize (S ++ D ++ ⟨#[58]⟩ ++ s : ByteArray) = S2 at *
            go_wp2_with fail
            go_ret2
            exact ⟨rfl, HB2.out⟩
          · have hb2 : (S ++ D ++ ⟨#[58]⟩ ++ s : ByteArray).size ≤ 2048 := by rw [HXZ.out]; omega
            clear hbig
            generalize (S ++ D ++ ⟨#[58]⟩ ++ s : ByteArray) = S2 at *
            go_wp2_with fail
            go_roundw
            case rel => exact ⟨k + 1, S2, by omega, by go_num, rfl, hb2, HX, HB2⟩
            case measure => simp [intOf]; omega
      · obtain rfl : k = l.length := by omega
        rw [List.take_length] at HS
        obtain ⟨rfl, rfl⟩ := HYES.out (by have := congrArg ByteArray.size HS.out; rw [ofL_size] at this; omega)
        obtain rfl := HS.out
        go_wp2_with fail
        go_ret2
        exact ⟨rfl, HB.out⟩

end Go.Proofs.YthedmiippfpbnaaGreatDoor
