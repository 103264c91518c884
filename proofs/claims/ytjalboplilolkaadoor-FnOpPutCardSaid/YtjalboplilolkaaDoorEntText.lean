/- The text of entries: both texts' walks. -/
import Derived.Test.YtjalboplilolkaaDoorNum
import Derived.Test.YtjalboplilolkaaDoorBuild
import Derived.Test.YtjalboplilolkaaDoorEntOk
import Derived.Test.YtjalboplilolkaaDoorPathSpec
namespace Go.Proofs.YtjalboplilolkaaDoor
open Go.RowKit Go.Sort
set_option maxRecDepth 100000
set_option linter.unusedVariables false
set_option linter.unusedSimpArgs false
attribute [local go_sem ↓] Go.wp_at_zero Go.wp_at_succ

theorem ents_step {es : List Ent} {k : Nat} {e : Ent} (h : es[k]? = some e) : entsL (es.take (k + 1)) = entsL (es.take k) ++ entL e := by
  rw [List.take_add_one, h, entsL_app]
  simp [entsL]
/-- The text so far, and what comes to it at an entry. -/
theorem ents_next {es : List Ent} {k : Nat} {nm : ByteArray} {n : Nat} (h : es[k]? = some ⟨nm, (n : Int)⟩) : ofL (entsL (es.take k)) ++ nm ++ ⟨#[61]⟩ ++ decT (n : Int) ++ ⟨#[59]⟩ = ofL (entsL (es.take (k + 1))) := by
  refine ofL_ext ?_
  rw [ofL_data, ents_step h]
  simp only [bytes_append, ofL_data, decT_data, entL]
  simp
theorem ents_take_len {es : List Ent} (hok : entriesOkB es = true) (k : Nat) : (entsL (es.take k)).length ≤ 96 := by
  obtain ⟨h1, h2⟩ := ent_ok hok
  have h3 := entsL_len (l := es.take k) (fun e he => h1 e (List.mem_of_mem_take he))
  have h4 : (es.take k).length ≤ 12 := by rw [List.length_take]; omega
  omega

set_option maxHeartbeats 4000000 in
theorem l12Put_any (w : World) (A : Option Addr) (cap : Nat) (es : List Ent) (h : RdT encE 2 w A es) (hc : es.length ≤ cap) (hm : cap ≤ 9223372036854775807) (hok : entriesOkB es = true) :
    Calls Tryd.prog 51 #[.slice A es.length cap] w fun e w' => e = .returned (.string (entsT es)) ∧ Below w.heap.size w w' := by
  have HR := Lib.hid h
  have HOK := Lib.hid hok
  clear h hok
  go_enter Tryd.func51, Tryd.ntmps51
  go_wp2_with fail
  go_loopw [3, 4] (fun x i wr => ∃ (k : Nat) (S : ByteArray), k ≤ es.length ∧ i = .int .i64 k ∧ x = .string S ∧ Hid (S = ofL (entsL (es.take k))) ∧ Hid (Below w.heap.size w wr)) (fun _ i _ => es.length - (intOf i).toNat)
  case atStart => exact ⟨0, _, Nat.zero_le _, rfl, rfl, Lib.hid (by simp [entsL, ofL]), Lib.hid (Below.refl _ _)⟩
  case round =>
    obtain ⟨k, S, hk, rfl, rfl, HS, HB⟩ := hrel
    have hSz : S.size ≤ 96 := by rw [HS.out, ofL_size]; exact ents_take_len HOK.out k
    by_cases hlt : k < es.length
    · obtain ⟨b, off, nm, id, rfl, hb, he, c0, c1⟩ := (HR.out.below HB.out).entry hlt
      have hx := (ent_ok HOK.out).1 _ (List.mem_of_getElem? he)
      obtain ⟨n, rfl⟩ : ∃ n : Nat, id = (n : Int) := ⟨id.toNat, by have := hx.2.1; dsimp only at this; omega⟩
      have hnz := nameB_size hx.1
      have hn15 : n ≤ 15 := by have := hx.2.2; dsimp only at this; omega
      dsimp only at hnz
      have HN := Lib.hid (ents_next he)
      rw [← HS.out] at HN
      have hDz : (decT (n : Int)).size ≤ 9 := by rw [decT, ofL_size]; exact (decL_len (by omega) (by omega)).2
      have HD := Lib.hid (fun w => dec_any n w (by omega))
      generalize decT (n : Int) = D at *
      have q1 : ¬ 9223372036854775807 < S.size + nm.size := by omega
      have z1 : (⟨#[61]⟩ : ByteArray).size = 1 := rfl
      have z2 : (⟨#[59]⟩ : ByteArray).size = 1 := rfl
      have q2 : ¬ 9223372036854775807 < S.size + nm.size + (⟨#[61]⟩ : ByteArray).size := by omega
      have q3 : ¬ 9223372036854775807 < S.size + nm.size + (⟨#[61]⟩ : ByteArray).size + D.size := by omega
      have q4 : ¬ 9223372036854775807 < S.size + nm.size + (⟨#[61]⟩ : ByteArray).size + D.size + (⟨#[59]⟩ : ByteArray).size := by omega
      have r2 : ¬ 9223372036854775807 < (S ++ nm).size + (⟨#[61]⟩ : ByteArray).size := by rw [ByteArray.size_append]; omega
      have r3 : ¬ 9223372036854775807 < (S ++ nm ++ ⟨#[61]⟩).size + D.size := by rw [ByteArray.size_append, ByteArray.size_append]; omega
      have r4 : ¬ 9223372036854775807 < (S ++ nm ++ ⟨#[61]⟩ ++ D).size + (⟨#[59]⟩ : ByteArray).size := by rw [ByteArray.size_append, ByteArray.size_append, ByteArray.size_append]; omega
      clear z1 z2
      clear he hx hnz
      go_wp2_with fail
      refine wp_quiet_b (by kernel_rfl) (by kernel_rfl) (fun hgrow => ?_)
      repeat (go_big_quiet_step ((go_at_call 65; exact quiet_b (HD.out _))))
      refine wpQuiet_nil ?_
      intro w2 hww2
      replace hww2 := below_of_regrown hww2
      clear hgrow
      go_wp2_with fail
      go_roundw
      case rel => exact ⟨k + 1, _, by omega, by go_num, rfl, HN, Lib.hid (by have := HB.out; (repeat (first | assumption | exact Below.refl _ _ | refine below_alloc ?_ _ | refine Below.drew ?_ | refine below_drewN ?_ _ | refine below_set ?_ (by first | exact Nat.le_refl _ | omega | (simp; done) | (simp; omega)) _ | refine below_kp ?_ (by assumption) (by simp) | refine below_below ?_ (by assumption))))⟩
      case measure => simp [intOf]; omega
    · obtain rfl : k = es.length := by omega
      obtain rfl : S = entsT es := by rw [HS.out, List.take_length]; rfl
      go_wp2_with fail
      go_ret
      exact ⟨rfl, HB.out⟩
/-- What putting entries gives. -/
def PutE (w : World) (es : List Ent) (e : Ending) (w' : World) : Prop := e = .returned (.tuple #[.string (if entriesOkB es = true then entsT es else ⟨#[]⟩), .bool (entriesOkB es)]) ∧ Below w.heap.size w w'
theorem specEntriesPut_any (w : World) (A : Option Addr) (cap : Nat) (es : List Ent) (h : RdT encE 2 w A es) (hc : es.length ≤ cap) (hm : cap ≤ 9223372036854775807) (hz : ∀ e ∈ es, e.name.size ≤ 9223372036854775807) :
    Calls Tryd.prog 22 #[.slice A es.length cap] w (PutE w es) := by
  have HO := Lib.hid (specEntriesOk_any w A cap es h hc hm hz)
  have HP := Lib.hid (fun w1 (hB : Below w.heap.size w w1) hok => l12Put_any w1 A cap es (h.below hB) hc hm hok)
  clear h
  unfold PutE
  cases hok : entriesOkB es
  · rw [hok] at HO
    clear HP
    go_enter Tryd.func22, Tryd.ntmps22
    go_wp2_with fail
    refine Calls.mono HO.out ?_
    rintro e w1 ⟨rfl, hB⟩
    have HB := Lib.hid hB
    clear hB
    go_wp2_with fail
    go_ret2
    exact ⟨rfl, HB.out⟩
  · rw [hok] at HO
    have HP2 := Lib.hid (fun w1 hB => HP.out w1 hB hok)
    clear HP hok
    generalize entsT es = S at *
    go_enter Tryd.func22, Tryd.ntmps22
    go_wp2_with fail
    refine Calls.mono HO.out ?_
    rintro e w1 ⟨rfl, hB⟩
    have HB := Lib.hid hB
    clear hB
    go_wp2_with fail
    refine Calls.mono (HP2.out _ HB.out) ?_
    rintro e w2 ⟨rfl, hB⟩
    have HB2 := Lib.hid (below_below HB.out hB)
    clear hB
    go_wp2_with fail
    go_ret2
    exact ⟨rfl, HB2.out⟩
set_option maxHeartbeats 8000000 in
theorem entriesPut_any (w : World) (A : Option Addr) (cap : Nat) (es : List Ent) (hT : TenAt w) (h : RdT encE 2 w A es) (hc : es.length ≤ cap) (hm : cap ≤ 9223372036854775807) (hz : ∀ e ∈ es, e.name.size ≤ 9223372036854775807) :
    Calls Tryd.prog 17 #[.slice A es.length cap] w (PutE w es) := by
  have HO := Lib.hid (entriesOk_any w A cap es h hc hm hz)
  have HR := Lib.hid h
  have HT := Lib.hid hT
  clear h hT
  unfold PutE
  cases hok : entriesOkB es
  · rw [hok] at HO
    go_enter Tryd.func17, Tryd.ntmps17
    go_wp2_with fail
    refine Calls.mono HO.out ?_
    rintro e w1 ⟨rfl, hB⟩
    have HB := Lib.hid hB
    clear hB
    go_wp2_with fail
    go_ret2
    exact ⟨rfl, HB.out⟩
  · rw [hok] at HO
    have HOK := Lib.hid hok
    clear hok
    go_enter Tryd.func17, Tryd.ntmps17
    go_wp2_with fail
    refine Calls.mono HO.out ?_
    rintro e w1 ⟨rfl, hB⟩
    have HB1 := Lib.hid hB
    have BN := Lib.hid (build_new w1)
    have HBn := Lib.hid (below_alloc hB (.cells #[.pointer none, .slice none 0 0] 82))
    have hw1 := hB.size
    clear hB HO
    go_wp2_with fail
    go_loopw [12] (fun i wr => ∃ (k : Nat), k ≤ es.length ∧ i = .int .i64 k ∧ Hid (BuildAt w1.heap.size w1.heap.size (entsL (es.take k)) wr) ∧ Hid (Below w.heap.size w wr)) (fun i _ => es.length - (intOf i).toNat)
    case atStart => exact ⟨0, Nat.zero_le _, rfl, Lib.hid (by simpa [entsL] using BN.out), HBn⟩
    case round =>
      clear BN HBn
      obtain ⟨k, hk, rfl, HS, HB⟩ := hrel
      have hSz := ents_take_len HOK.out k
      have hbl := HS.out.lt
      by_cases hlt : k < es.length
      · obtain ⟨b, off, nm, id, rfl, hb, he, c0, c1⟩ := (HR.out.below HB.out).entry hlt
        have hx := (ent_ok HOK.out).1 _ (List.mem_of_getElem? he)
        have hnz := nameB_size hx.1
        have hid0 := hx.2.1
        have hid1 := hx.2.2
        dsimp only at hnz hid0 hid1
        have HN := Lib.hid (ents_step he)
        have HNT := Lib.hid (numT_dec (n := id) (by omega) (by omega))
        have hDz : (decT id).size ≤ 9 := by rw [decT, ofL_size]; exact (decL_len (by omega) (by omega)).2
        have HD := Lib.hid (fun w hT => numPut_any id w hT)
        rw [HNT.out] at HD
        have HE := Lib.hid (show ((nm ++ ⟨#[61]⟩ ++ decT id ++ ⟨#[59]⟩ : ByteArray)).data.toList = entL ⟨nm, id⟩ by simp only [bytes_append, decT_data, entL]; simp)
        generalize decT id = D at *
        have z1 : (⟨#[61]⟩ : ByteArray).size = 1 := rfl
        have z2 : (⟨#[59]⟩ : ByteArray).size = 1 := rfl
        have q2 : ¬ 9223372036854775807 < nm.size + (⟨#[61]⟩ : ByteArray).size := by omega
        have q3 : ¬ 9223372036854775807 < nm.size + (⟨#[61]⟩ : ByteArray).size + D.size := by omega
        have q4 : ¬ 9223372036854775807 < nm.size + (⟨#[61]⟩ : ByteArray).size + D.size + (⟨#[59]⟩ : ByteArray).size := by omega
        have hWS : (entsL (es.take k)).length + (nm ++ ⟨#[61]⟩ ++ D ++ ⟨#[59]⟩ : ByteArray).size ≤ 140737488355328 := by rw [ByteArray.size_append, ByteArray.size_append, ByteArray.size_append]; omega
        have HWS := Lib.hid hWS
        clear he hx hnz z1 z2 HNT hWS
        have hbw : ¬ w1.heap.size = wr.heap.size := by omega
        go_wp2_with fail
        go_region_with (first
          | (go_at_call 53; refine Calls.mono (HD.out _ (HT.out.below ?hb)) ?_; (case hb => (have := HB.out; (repeat (first | assumption | exact Below.refl _ _ | refine below_alloc ?_ _ | refine Below.drew ?_ | refine below_drewN ?_ _ | refine below_set ?_ (by first | exact Nat.le_refl _ | omega | (simp; done) | (simp; omega)) _ | refine below_kp ?_ (by assumption) (by simp) | refine below_below ?_ (by assumption))))); rintro e w2 ⟨rfl, hB2⟩; obtain ⟨c2, f2⟩ := bcell hB2; have hs2 := hB2.size; (try simp only [World.size_alloc, World.size_drew, Nat.add_one_le_iff] at hs2); have BW := Lib.hid (below_below (show Below wr.heap.size wr _ by (repeat (first | assumption | exact Below.refl _ _ | refine below_alloc ?_ _ | refine Below.drew ?_ | refine below_drewN ?_ _ | refine below_set ?_ (by first | exact Nat.le_refl _ | omega | (simp; done) | (simp; omega)) _ | refine below_kp ?_ (by assumption) (by simp) | refine below_below ?_ (by assumption)))) hB2); clear hB2)
          | (go_at_call 52; refine Calls.mono (writeString_any _ (HS.out.below ?h1) ?h2) ?_; (case h1 => (have := BW.out; (repeat (first | assumption | exact Below.refl _ _ | refine below_alloc ?_ _ | refine Below.drew ?_ | refine below_drewN ?_ _ | refine below_set ?_ (by first | exact Nat.le_refl _ | omega | (simp; done) | (simp; omega)) _ | refine below_kp ?_ (by assumption) (by simp) | refine below_below ?_ (by assumption))))); (case h2 => exact HWS.out); rintro e w3 ⟨rfl, hBD, hB3⟩; have BD := Lib.hid hBD; have HB3 := Lib.hid hB3; clear hBD hB3))
        all_goals
          have h1 := below_below HB.out BW.out
          have HB4 := Lib.hid (Below.trans (show Below w.heap.size w _ by (repeat (first | assumption | exact Below.refl _ _ | refine below_alloc ?_ _ | refine Below.drew ?_ | refine below_drewN ?_ _ | refine below_set ?_ (by first | exact Nat.le_refl _ | omega | (simp; done) | (simp; omega)) _ | refine below_kp ?_ (by assumption) (by simp) | refine below_below ?_ (by assumption)))) (HB3.out.mono hw1))
          clear h1
          go_wp2_with fail
          go_roundw
          case rel => exact ⟨k + 1, by omega, by go_num, Lib.hid (by rw [HN.out, ← HE.out]; exact BD.out), HB4⟩
          case measure => simp [intOf]; omega
      · obtain rfl : k = es.length := by omega
        rw [List.take_length] at HS
        go_wp2_with fail
        refine Calls.mono (buildString_any HS.out) ?_
        rintro e w2 ⟨rfl, _, hB⟩
        have HB2 := Lib.hid (HB.out.trans (hB.mono hw1))
        clear hB
        go_wp2_with fail
        go_ret2
        exact ⟨rfl, HB2.out⟩

end Go.Proofs.YtjalboplilolkaaDoor
