/- EntriesOk: the reference's and the program's return one Bool for every list. -/
import Derived.Test.YtjalboplilolkaaDoorEntPlain
import Derived.Test.YtjalboplilolkaaDoorNameOk
namespace Go.Proofs.YtjalboplilolkaaDoor
open Go.RowKit
set_option linter.unusedVariables false

/-- Element k of a row of entries, with its cells. -/
theorem RdT.entry {w : World} {A : Option Addr} {es : List Ent} {k : Nat} (h : RdT encE 2 w A es) (hk : k < es.length) :
    ∃ b off nm id, A = some ⟨b, off, none⟩ ∧ b < w.heap.size ∧ es[k]? = some ⟨nm, id⟩ ∧ w.cell? ⟨b, off + k * 2, none⟩ = some (.string nm) ∧ w.cell? ⟨b, off + k * 2 + 1, none⟩ = some (.int .i64 id) := by
  obtain ⟨b, off, rfl, hb, hc⟩ := h (by omega)
  have he : es[k]? = some es[k] := List.getElem?_eq_getElem hk
  exact ⟨b, off, es[k].name, es[k].id, rfl, hb, he, hc k _ he 0 (by omega), hc k _ he 1 (by omega)⟩

/-- The row itself, once its address is known. -/
theorem RdT.row' {α : Type} {enc : α → Nat → Value} {sz : Nat} {w : World} {b off : Nat} {xs : List α} (h : RdT enc sz w (some ⟨b, off, none⟩) xs) (hn : 0 < xs.length) : RowAt enc sz w b off xs := by
  obtain ⟨b', off', e, hr⟩ := h hn
  cases e
  exact hr

set_option maxHeartbeats 4000000 in
theorem specEntriesOk_any (w : World) (A : Option Addr) (cap : Nat) (es : List Ent) (h : RdT encE 2 w A es) (hc : es.length ≤ cap) (hm : cap ≤ 9223372036854775807) (hz : ∀ e ∈ es, e.name.size ≤ 9223372036854775807) :
    Calls Tryd.prog 20 #[.slice A es.length cap] w fun e w' => e = .returned (.bool (entriesOkB es)) ∧ Below w.heap.size w w' := by
  have HR := Lib.hid h
  have HZ := Lib.hid hz
  clear h hz
  go_enter Tryd.func20, Tryd.ntmps20
  go_wp2_with fail
  go_loopw [3] (fun i wr => ∃ k : Nat, k ≤ es.length ∧ i = .int .i64 k ∧ Hid (restOk es k) ∧ Below w.heap.size w wr) (fun i _ => es.length - (intOf i).toNat)
  case atStart => exact ⟨0, Nat.zero_le _, rfl, restOk_zero es, Below.refl _ _⟩
  case round =>
    obtain ⟨k, hk, rfl, hr, hB⟩ := hrel
    have HB := Lib.hid hB
    clear hB
    by_cases hlt : k < es.length
    · obtain ⟨b, off, nm, id, rfl, hb, he, c0, c1⟩ := (HR.out.below HB.out).entry hlt
      have hnz := HZ.out _ (List.mem_of_getElem? he)
      have HE := Lib.hid he
      have HNZ := Lib.hid hnz
      clear he hnz
      go_wp2_with fail
      by_cases hn : nameB nm = true
      · by_cases hi : inB id 1 15 = true
        · cases k with
          | zero =>
            have HF := Lib.hid (restOk_first hr.out HE.out hn hi)
            simp only [Nat.zero_mul, Nat.add_zero, Int.natCast_zero] at c0 c1 ⊢
            refine wp_quiet_b (by kernel_rfl) (by kernel_rfl) (fun hgrow => ?_)
            repeat (go_big_quiet_step (first | (go_at_call 57; exact quiet_s (specNameOk_any _ _ HNZ.out)) | (go_at_call 58; exact quiet_s (l6In_any _ _ _ _))))
            refine wpQuiet_nil ?_
            intro w2 hww2
            replace hww2 := below_of_regrown hww2
            clear hgrow
            go_wp2_with fail
            go_roundw
            case rel => exact ⟨1, by omega, by go_num, HF.out, by have := HB.out; (repeat (first | assumption | exact Below.refl _ _ | refine below_alloc ?_ _ | refine Below.drew ?_ | refine below_drewN ?_ _ | refine below_set ?_ (by first | exact Nat.le_refl _ | omega | (simp; done) | (simp; omega)) _ | refine below_kp ?_ (by assumption) (by simp) | refine below_below ?_ (by assumption)))⟩
            case measure => simp [intOf]; omega
          | succ j =>
            obtain ⟨d, hd⟩ : ∃ d, es[j]? = some d := ⟨es[j], List.getElem?_eq_getElem (by omega)⟩
            have hcd := ((HR.out.below HB.out).row' (by omega)).2 j d hd 0 (by omega)
            obtain ⟨pn, pid⟩ := d
            have hcd' : wr.cell? ⟨b, off + j * 2, none⟩ = some (.string pn) := hcd
            have HD := Lib.hid hd
            clear hd hcd
            by_cases hl : Op.bytesLess pn.toList nm.toList = true
            · have HF := Lib.hid (restOk_next hr.out HD.out HE.out hn hi hl)
              refine wp_quiet_b (by kernel_rfl) (by kernel_rfl) (fun hgrow => ?_)
              repeat (go_big_quiet_step (first | (go_at_call 57; exact quiet_s (specNameOk_any _ _ HNZ.out)) | (go_at_call 58; exact quiet_s (l6In_any _ _ _ _))))
              refine wpQuiet_nil ?_
              intro w2 hww2
              replace hww2 := below_of_regrown hww2
              clear hgrow
              go_wp2_with fail
              go_roundw
              case rel => exact ⟨j + 2, by omega, by go_num, HF.out, by have := HB.out; (repeat (first | assumption | exact Below.refl _ _ | refine below_alloc ?_ _ | refine Below.drew ?_ | refine below_drewN ?_ _ | refine below_set ?_ (by first | exact Nat.le_refl _ | omega | (simp; done) | (simp; omega)) _ | refine below_kp ?_ (by assumption) (by simp) | refine below_below ?_ (by assumption)))⟩
              case measure => simp [intOf]; omega
            · have hl' : Op.bytesLess pn.toList nm.toList = false := by simpa using hl
              have HF := Lib.hid (restOk_lt hr.out HD.out HE.out hl')
              clear hl
              refine wp_quiet_b (by kernel_rfl) (by kernel_rfl) (fun hgrow => ?_)
              repeat (go_big_quiet_step (first | (go_at_call 57; exact quiet_s (specNameOk_any _ _ HNZ.out)) | (go_at_call 58; exact quiet_s (l6In_any _ _ _ _))))
              refine wpQuiet_nil ?_
              intro w2 hww2
              replace hww2 := below_of_regrown hww2
              clear hgrow
              go_wp2_with fail
              go_ret
              exact ⟨ret_bool HF.out.symm, by have := HB.out; (repeat (first | assumption | exact Below.refl _ _ | refine below_alloc ?_ _ | refine Below.drew ?_ | refine below_drewN ?_ _ | refine below_set ?_ (by first | exact Nat.le_refl _ | omega | (simp; done) | (simp; omega)) _ | refine below_kp ?_ (by assumption) (by simp) | refine below_below ?_ (by assumption)))⟩
        · have hi' : inB id 1 15 = false := by simpa using hi
          have HF := Lib.hid (restOk_id hr.out HE.out hi')
          clear hi
          refine wp_quiet_b (by kernel_rfl) (by kernel_rfl) (fun hgrow => ?_)
          repeat (go_big_quiet_step (first | (go_at_call 57; exact quiet_s (specNameOk_any _ _ HNZ.out)) | (go_at_call 58; exact quiet_s (l6In_any _ _ _ _))))
          refine wpQuiet_nil ?_
          intro w2 hww2
          replace hww2 := below_of_regrown hww2
          clear hgrow
          go_wp2_with fail
          go_ret
          exact ⟨ret_bool HF.out.symm, by have := HB.out; (repeat (first | assumption | exact Below.refl _ _ | refine below_alloc ?_ _ | refine Below.drew ?_ | refine below_drewN ?_ _ | refine below_set ?_ (by first | exact Nat.le_refl _ | omega | (simp; done) | (simp; omega)) _ | refine below_kp ?_ (by assumption) (by simp) | refine below_below ?_ (by assumption)))⟩
      · have hn' : nameB nm = false := by simpa using hn
        have HF := Lib.hid (restOk_name hr.out HE.out hn')
        clear hn
        refine wp_quiet_b (by kernel_rfl) (by kernel_rfl) (fun hgrow => ?_)
        repeat (go_big_quiet_step (first | (go_at_call 57; exact quiet_s (specNameOk_any _ _ HNZ.out)) | (go_at_call 58; exact quiet_s (l6In_any _ _ _ _))))
        refine wpQuiet_nil ?_
        intro w2 hww2
        replace hww2 := below_of_regrown hww2
        clear hgrow
        go_wp2_with fail
        go_ret
        exact ⟨ret_bool HF.out.symm, by have := HB.out; (repeat (first | assumption | exact Below.refl _ _ | refine below_alloc ?_ _ | refine Below.drew ?_ | refine below_drewN ?_ _ | refine below_set ?_ (by first | exact Nat.le_refl _ | omega | (simp; done) | (simp; omega)) _ | refine below_kp ?_ (by assumption) (by simp) | refine below_below ?_ (by assumption)))⟩
    · obtain rfl : k = es.length := by omega
      have HN := Lib.hid (show decide ((es.length : Int) ≤ 12) = entriesOkB es from by rw [restOk_end hr.out]; exact decide_eq_decide.2 (by omega))
      go_wp2_with fail
      go_ret
      exact ⟨ret_bool HN.out, HB.out⟩

set_option maxHeartbeats 4000000 in
theorem entriesOk_any (w : World) (A : Option Addr) (cap : Nat) (es : List Ent) (h : RdT encE 2 w A es) (hc : es.length ≤ cap) (hm : cap ≤ 9223372036854775807) (hz : ∀ e ∈ es, e.name.size ≤ 9223372036854775807) :
    Calls Tryd.prog 19 #[.slice A es.length cap] w fun e w' => e = .returned (.bool (entriesOkB es)) ∧ Below w.heap.size w w' := by
  have HR := Lib.hid h
  have HZ := Lib.hid hz
  clear h hz
  go_enter Tryd.func19, Tryd.ntmps19
  go_wp2_with fail
  go_loopw [7] (fun i wr => ∃ k : Nat, k ≤ es.length ∧ i = .int .i64 k ∧ Hid (restOk es k) ∧ Below w.heap.size w wr) (fun i _ => es.length - (intOf i).toNat)
  case atStart => exact ⟨0, Nat.zero_le _, rfl, restOk_zero es, Below.refl _ _⟩
  case round =>
    obtain ⟨k, hk, rfl, hr, hB⟩ := hrel
    have HB := Lib.hid hB
    clear hB
    by_cases hlt : k < es.length
    · obtain ⟨b, off, nm, id, rfl, hb, he, c0, c1⟩ := (HR.out.below HB.out).entry hlt
      have hnz := HZ.out _ (List.mem_of_getElem? he)
      have HE := Lib.hid he
      have HNZ := Lib.hid hnz
      clear he hnz
      have hb' : b < wr.heap.size + 1 := by omega
      go_wp2_with fail
      by_cases hn : nameB nm = true
      · by_cases hi : inB id 1 15 = true
        · cases k with
          | zero =>
            have HF := Lib.hid (restOk_first hr.out HE.out hn hi)
            simp only [Nat.zero_mul, Nat.add_zero, Int.natCast_zero] at c0 c1 ⊢
            refine wp_quiet_b (by kernel_rfl) (by kernel_rfl) (fun hgrow => ?_)
            repeat (go_big_quiet_step (first | (go_at_call 55; exact quiet_b (nameOk_any _ _ HNZ.out)) | (go_at_call 56; exact quiet_s (within_any _ _ _ _))))
            refine wpQuiet_nil ?_
            intro w2 hww2
            replace hww2 := below_of_regrown hww2
            clear hgrow
            go_wp2_with fail
            go_roundw
            case rel => exact ⟨1, by omega, by go_num, HF.out, by have := HB.out; (repeat (first | assumption | exact Below.refl _ _ | refine below_alloc ?_ _ | refine Below.drew ?_ | refine below_drewN ?_ _ | refine below_set ?_ (by first | exact Nat.le_refl _ | omega | (simp; done) | (simp; omega)) _ | refine below_kp ?_ (by assumption) (by simp) | refine below_below ?_ (by assumption)))⟩
            case measure => simp [intOf]; omega
          | succ j =>
            obtain ⟨d, hd⟩ : ∃ d, es[j]? = some d := ⟨es[j], List.getElem?_eq_getElem (by omega)⟩
            have hcd := ((HR.out.below HB.out).row' (by omega)).2 j d hd 0 (by omega)
            obtain ⟨pn, pid⟩ := d
            have hcd' : wr.cell? ⟨b, off + j * 2, none⟩ = some (.string pn) := hcd
            have HD := Lib.hid hd
            clear hd hcd
            by_cases hl : Op.bytesLess pn.toList nm.toList = true
            · have HF := Lib.hid (restOk_next hr.out HD.out HE.out hn hi hl)
              refine wp_quiet_b (by kernel_rfl) (by kernel_rfl) (fun hgrow => ?_)
              repeat (go_big_quiet_step (first | (go_at_call 55; exact quiet_b (nameOk_any _ _ HNZ.out)) | (go_at_call 56; exact quiet_s (within_any _ _ _ _))))
              refine wpQuiet_nil ?_
              intro w2 hww2
              replace hww2 := below_of_regrown hww2
              clear hgrow
              go_wp2_with fail
              go_roundw
              case rel => exact ⟨j + 2, by omega, by go_num, HF.out, by have := HB.out; (repeat (first | assumption | exact Below.refl _ _ | refine below_alloc ?_ _ | refine Below.drew ?_ | refine below_drewN ?_ _ | refine below_set ?_ (by first | exact Nat.le_refl _ | omega | (simp; done) | (simp; omega)) _ | refine below_kp ?_ (by assumption) (by simp) | refine below_below ?_ (by assumption)))⟩
              case measure => simp [intOf]; omega
            · have hl' : Op.bytesLess pn.toList nm.toList = false := by simpa using hl
              have HF := Lib.hid (restOk_lt hr.out HD.out HE.out hl')
              clear hl
              refine wp_quiet_b (by kernel_rfl) (by kernel_rfl) (fun hgrow => ?_)
              repeat (go_big_quiet_step (first | (go_at_call 55; exact quiet_b (nameOk_any _ _ HNZ.out)) | (go_at_call 56; exact quiet_s (within_any _ _ _ _))))
              refine wpQuiet_nil ?_
              intro w2 hww2
              replace hww2 := below_of_regrown hww2
              clear hgrow
              go_wp2_with fail
              go_ret
              exact ⟨ret_bool HF.out.symm, by have := HB.out; (repeat (first | assumption | exact Below.refl _ _ | refine below_alloc ?_ _ | refine Below.drew ?_ | refine below_drewN ?_ _ | refine below_set ?_ (by first | exact Nat.le_refl _ | omega | (simp; done) | (simp; omega)) _ | refine below_kp ?_ (by assumption) (by simp) | refine below_below ?_ (by assumption)))⟩
        · have hi' : inB id 1 15 = false := by simpa using hi
          have HF := Lib.hid (restOk_id hr.out HE.out hi')
          clear hi
          refine wp_quiet_b (by kernel_rfl) (by kernel_rfl) (fun hgrow => ?_)
          repeat (go_big_quiet_step (first | (go_at_call 55; exact quiet_b (nameOk_any _ _ HNZ.out)) | (go_at_call 56; exact quiet_s (within_any _ _ _ _))))
          refine wpQuiet_nil ?_
          intro w2 hww2
          replace hww2 := below_of_regrown hww2
          clear hgrow
          go_wp2_with fail
          go_ret
          exact ⟨ret_bool HF.out.symm, by have := HB.out; (repeat (first | assumption | exact Below.refl _ _ | refine below_alloc ?_ _ | refine Below.drew ?_ | refine below_drewN ?_ _ | refine below_set ?_ (by first | exact Nat.le_refl _ | omega | (simp; done) | (simp; omega)) _ | refine below_kp ?_ (by assumption) (by simp) | refine below_below ?_ (by assumption)))⟩
      · have hn' : nameB nm = false := by simpa using hn
        have HF := Lib.hid (restOk_name hr.out HE.out hn')
        clear hn
        refine wp_quiet_b (by kernel_rfl) (by kernel_rfl) (fun hgrow => ?_)
        repeat (go_big_quiet_step (first | (go_at_call 55; exact quiet_b (nameOk_any _ _ HNZ.out)) | (go_at_call 56; exact quiet_s (within_any _ _ _ _))))
        refine wpQuiet_nil ?_
        intro w2 hww2
        replace hww2 := below_of_regrown hww2
        clear hgrow
        go_wp2_with fail
        go_ret
        exact ⟨ret_bool HF.out.symm, by have := HB.out; (repeat (first | assumption | exact Below.refl _ _ | refine below_alloc ?_ _ | refine Below.drew ?_ | refine below_drewN ?_ _ | refine below_set ?_ (by first | exact Nat.le_refl _ | omega | (simp; done) | (simp; omega)) _ | refine below_kp ?_ (by assumption) (by simp) | refine below_below ?_ (by assumption)))⟩
    · obtain rfl : k = es.length := by omega
      have HN := Lib.hid (show decide ((es.length : Int) ≤ 12) = entriesOkB es from by rw [restOk_end hr.out]; exact decide_eq_decide.2 (by omega))
      go_wp2_with fail
      go_ret
      exact ⟨ret_bool HN.out, HB.out⟩

end Go.Proofs.YtjalboplilolkaaDoor
