/- What a pointer leads to in three disks: the program's walk. -/
import Derived.Test.YtamljoffmkcbnaaRaidPlain
import Derived.Test.YtamljoffmkcbnaaStrS
import Derived.Test.YtamljoffmkcbnaaDiskS
namespace Go.Proofs.Ytamljoffmkcbnaa
open Go.RowKit
set_option maxRecDepth 100000
set_option linter.unusedVariables false
set_option linter.unusedSimpArgs false

theorem stripeJoin_any (w : World) (A : Option Addr) (cap : Nat) (cs : List ByteArray) (h3 : cs.length = 3) (hr : RdT encS 1 w A cs) (hc : 3 ≤ cap) (hcm : cap ≤ 9223372036854775807) (sz : Nat) (h1 : 1 ≤ sz) (h2 : sz ≤ 128) (hz : ∀ s ∈ cs, s.size ≤ 1000) (lost : Int) (l0 : -1 ≤ lost) (l1 : lost ≤ 1) :
    Calls Try.prog 48 #[.slice A 3 cap, .int .i64 sz, .int .i64 lost] w fun e w' => e = .returned (.tuple #[.string (optS (joinL cs sz lost)), .bool (joinL cs sz lost).isSome]) ∧ Below w.heap.size w w' := by
  obtain ⟨c0, c1, c2, rfl⟩ := three h3
  have z0 := hz c0 (by simp)
  have z1 := hz c1 (by simp)
  have z2 := hz c2 (by simp)
  rcases (show lost = -1 ∨ lost = 0 ∨ lost = 1 by omega) with rfl | rfl | rfl
  · exact stripeJoin_m1 w A cap c0 c1 c2 sz _ _ hr hc hcm rfl (by omega) h1 h2 z0 z1 z2
  · exact stripeJoin_0 w A cap c0 c1 c2 sz _ _ hr hc hcm rfl (by omega) h1 h2 z0 z1 z2
  · exact stripeJoin_1 w A cap c0 c1 c2 sz _ _ hr hc hcm rfl (by omega) h1 h2 z0 z1 z2
theorem specStripeJoin_any (w : World) (A : Option Addr) (cap : Nat) (cs : List ByteArray) (h3 : cs.length = 3) (hr : RdT encS 1 w A cs) (hc : 3 ≤ cap) (hcm : cap ≤ 9223372036854775807) (sz : Nat) (h1 : 1 ≤ sz) (h2 : sz ≤ 128) (hz : ∀ s ∈ cs, s.size ≤ 1000) (lost : Int) (l0 : -1 ≤ lost) (l1 : lost ≤ 1) :
    Calls Try.prog 58 #[.slice A 3 cap, .int .i64 sz, .int .i64 lost] w fun e w' => e = .returned (.tuple #[.string (optS (joinL cs sz lost)), .bool (joinL cs sz lost).isSome]) ∧ Below w.heap.size w w' := by
  obtain ⟨c0, c1, c2, rfl⟩ := three h3
  have z0 := hz c0 (by simp)
  have z1 := hz c1 (by simp)
  have z2 := hz c2 (by simp)
  rcases (show lost = -1 ∨ lost = 0 ∨ lost = 1 by omega) with rfl | rfl | rfl
  · exact specStripeJoin_m1 w A cap c0 c1 c2 sz _ _ hr hc hcm rfl (by omega) h1 h2 z0 z1 z2
  · exact specStripeJoin_0 w A cap c0 c1 c2 sz _ _ hr hc hcm rfl (by omega) h1 h2 z0 z1 z2
  · exact specStripeJoin_1 w A cap c0 c1 c2 sz _ _ hr hc hcm rfl (by omega) h1 h2 z0 z1 z2
theorem fitO_size {p : Pt} {r : Option ByteArray} : fitO p none = none := rfl
theorem fitO_yes {p : Pt} {t : ByteArray} (h : fitsB p t = true) : fitO p (some t) = some t := by simp [fitO, h]
theorem fitO_no {p : Pt} {t : ByteArray} (h : fitsB p t = false) : fitO p (some t) = none := by simp [fitO, h]
theorem joinL_size {cs : List ByteArray} {sz : Nat} (hs : sz ≤ 128) {lost : Int} {t : ByteArray} (h : joinL cs sz lost = some t) : t.size ≤ 1000 := by
  unfold joinL joinK at h
  split at h
  · split at h
    · next he => cases h; rw [ByteArray.size_append]; omega
    · cases h
  · split at h
    · split at h
      · next he => cases h; rw [ByteArray.size_append, xorS_size]; omega
      · cases h
    · split at h
      · next he => cases h; rw [ByteArray.size_append, ByteArray.size_extract, xorS_size]; omega
      · cases h
theorem ptr_ok {p : Pt} (h : ptrB p = true) (hh : holeB p = false) : inB p.at_ 0 63 = true ∧ inB p.size 1 128 = true := by
  unfold ptrB at h
  rw [hh] at h
  simp only [Bool.false_or, Bool.and_eq_true] at h
  obtain ⟨a1, a2⟩ := inB_true h.1
  exact ⟨inB_mk (by omega) (by omega), h.2.2.1⟩
theorem way_gone {ds : List Dk} {p : Pt} {lost : Int} (h : goneU lost ds 3 = true) : wayK ds p lost = none := by simp [wayK, h]
theorem way_here {ds : List Dk} {p : Pt} {lost : Int} (h : goneU lost ds 3 = false) {sz : Nat} (hs : p.size = (sz : Int)) : wayK ds p lost = fitO p (joinL (ds.map (colI p.at_)) sz lost) := by simp [wayK, h, hs]
theorem used_a {lost : Int} {k : Nat} (h : (k : Int) = lost) : usedB lost k = false := by simp [usedB, h]
theorem used_b {lost : Int} {k : Nat} (h : ¬ (k : Int) = lost) (h2 : (k : Int) < 2) : usedB lost k = true := by simp [usedB, h, h2]
theorem used_c {lost : Int} {k : Nat} (h : ¬ (k : Int) = lost) (h2 : 0 ≤ lost) : usedB lost k = true := by simp [usedB, h, h2]
theorem used_d {lost : Int} {k : Nat} (h2 : ¬ (k : Int) < 2) (h3 : ¬ 0 ≤ lost) : usedB lost k = false := by simp [usedB, h2, h3]
/-- Cells of the disk number k. -/
theorem rrd_at {w : World} {A : Option Addr} {cap : Nat} {xs : List DA} {ds : List Dk} (h : RRd w A cap xs ds) {k : Nat} (hk : k < xs.length) : ∃ b off x d, A = some ⟨b, off, none⟩ ∧ b < w.heap.size ∧ xs[k]? = some x ∧ ds[k]? = some d ∧ DRd w x d ∧
    w.cell? ⟨b, off + k * 3, none⟩ = some (.slice x.C x.nC x.cC) ∧ w.cell? ⟨b, off + k * 3 + 1, none⟩ = some (.slice x.W x.nW x.cW) ∧ w.cell? ⟨b, off + k * 3 + 2, none⟩ = some (.bool x.g) := by
  obtain ⟨b, off, x, e, hb, hx, c0, c1, c2⟩ := h.rows.disk hk
  obtain ⟨d, hd, hr⟩ := h.each k x hx
  exact ⟨b, off, x, d, e, hb, hx, hd, hr, c0, c1, c2⟩

set_option maxHeartbeats 4000000 in
theorem rread_any (w : World) (A : Option Addr) (cap : Nat) (xs : List DA) (ds : List Dk) (p : Pt) (h : RRd w A cap xs ds) (hok : raidB ds = true) (hp : ptrB p = true) (hh : holeB p = false) :
    Calls Try.prog 27 #[.agg #[.slice A 3 cap], p.v] w fun e w' => e = .returned (.tuple #[.string (optS (readK ds p)), .bool (readK ds p).isSome]) ∧ Below w.heap.size w w' := by
  obtain ⟨h3, hds⟩ := raid_ok hok
  obtain ⟨hat, hps⟩ := ptr_ok hp hh
  obtain ⟨sz, hsz⟩ : ∃ sz : Nat, p.size = (sz : Int) := ⟨p.size.toNat, by have := (inB_true hps).1; omega⟩
  have z1 : 1 ≤ sz := by have := (inB_true hps).1; omega
  have z2 : sz ≤ 128 := by have := (inB_true hps).2; omega
  have HX3 := Lib.hid (show xs.length = 3 by rw [← h.len]; exact h3)
  have hcap : 3 ≤ cap := by have := h.hc; have := HX3.out; omega
  have hcm := h.mc
  have HRR := Lib.hid h
  have HLK := Lib.hid (fun (W : World) (x : DA) (d : Dk) (hm : d ∈ ds) (hr : DRd W x d) => look_any W x d p.at_ hr hat (disk_ok (hds d hm)).1)
  have HCZ := Lib.hid (show ∀ s ∈ ds.map (colI p.at_), s.size ≤ 1000 from fun s hs => by obtain ⟨d, hd, rfl⟩ := List.mem_map.1 hs; have := col_size (hds d hd) p.at_; omega)
  have HC3 := Lib.hid (show (ds.map (colI p.at_)).length = 3 by rw [List.length_map]; exact h3)
  have HCK := Lib.hid (fun (k : Nat) (d : Dk) (hd : ds[k]? = some d) => (show (ds.map (colI p.at_))[k]? = some (colI p.at_ d) by rw [List.getElem?_map, hd]; rfl))
  have HFP := Lib.hid (fun W (s : ByteArray) hs => ptrFits_any p s W hs)
  have HWG := Lib.hid (fun lost (hg : goneU lost ds 3 = true) => way_gone (p := p) hg)
  have HWH := Lib.hid (fun lost (hg : goneU lost ds 3 = false) => way_here (p := p) hg hsz)
  have HHIT := Lib.hid (fun l h0 h1 hn t ht => (show readK ds p = some t from firstO_hit (f := wayK ds p) (l := l) h0 h1 hn ht))
  have HMISS := Lib.hid (fun hn => (show readK ds p = none from firstO_miss (f := wayK ds p) (l := 2) rfl hn))
  generalize hrk : readK ds p = rk at *
  have HFI := Lib.hid (fun r => (rfl : fitO p r = fitO p r))
  clear hrk hps h3 hds hok hp hh h hat
  obtain ⟨pa, pb, ps, pu, pl⟩ := p
  unfold Pt.v at *
  dsimp only at *
  subst hsz
  have HBa := Lib.hid (below_alloc (below_alloc (Below.refl w.heap.size w) (.cells #[.slice A 3 cap] 25)) (.cells #[.int .i64 pa, .int .i64 pb, .int .i64 sz, .int .i64 pu, .int .i64 pl] 29))
  have BR0 := Lib.hid ((box_new w #[.slice A 3 cap] 25).alloc (.cells #[.int .i64 pa, .int .i64 pb, .int .i64 sz, .int .i64 pu, .int .i64 pl] 29))
  have BP0 := box_new (w.alloc (.cells #[.slice A 3 cap] 25)) #[.int .i64 pa, .int .i64 pb, .int .i64 sz, .int .i64 pu, .int .i64 pl] 29
  rw [World.size_alloc] at BP0
  replace BP0 := Lib.hid BP0
  obtain ⟨i0, hi, hz0, hz1, hz2⟩ := info_parts info_string
  go_enter Try.func27, Try.ntmps27
  go_wp2_with (at_make; refine wpList_make_full _ rfl _ _ 48 rfl (w.heap.size + 1 + 1) 9 i0 _ 1 Try.underlying48 hi hz0 hz1 .i64 .i64 _ _ 3 rfl rfl rfl rfl (by rw [hz2]; omega) (by unfold maxLen; omega) (by simp) ?_; intro w1 hown hgrow; have B1 := (Below.refl _ _).grown hgrow (Nat.le_refl _) (fun k hk => by cases hk); have BR1 := Lib.hid (BR0.out.below B1); have BP1 := Lib.hid (BP0.out.below B1); have HB1 := Lib.hid (below_below HBa.out B1); have br1 := BR1.out.cell; have bl1 := BR1.out.lt; rw [madeS] at hown; simp only [World.size_alloc] at hown; have HO1 := Lib.hid hown; clear hown hgrow B1)
  clear HBa BR0 BP0 br1 bl1 hi hz0 hz1 hz2
  go_loopw [19] (fun i wr => ∃ k : Nat, k ≤ 3 ∧ i = .int .i64 k ∧ Hid (wr.ownsRow (w.heap.size + 1 + 1) 9 1 (.slice (some ⟨w.heap.size + 1 + 1, 0, none⟩) 3 3) 3 (cellsOf encS 1 ((ds.map (colI pa)).take k ++ List.replicate (3 - k) ⟨#[]⟩))) ∧ Hid (BoxAt wr w.heap.size #[.slice A 3 cap] 25) ∧ Hid (BoxAt wr (w.heap.size + 1) #[.int .i64 pa, .int .i64 pb, .int .i64 sz, .int .i64 pu, .int .i64 pl] 29) ∧ Hid (Below w.heap.size w wr)) (fun i _ => 3 - (intOf i).toNat)
  case atStart => exact ⟨0, Nat.zero_le _, rfl, Lib.hid (by simpa using HO1.out), BR1, BP1, HB1⟩
  case round =>
    clear HO1 BR1 BP1 HB1
    obtain ⟨k, hk, rfl, HO, BR, BP, HB⟩ := hrel
    by_cases hlt : k < 3
    · obtain ⟨b, off, x, d, hA, hb, he, hd, hr, c0, c1, c2⟩ := rrd_at (HRR.out.below HB.out) (k := k) (by rw [HX3.out]; exact hlt)
      subst hA
      have hgn := hr.gn
      have HCk := Lib.hid (HCK.out k d hd)
      have bp0 : wr.cell? ⟨w.heap.size + 1, 0, none⟩ = some (.int .i64 pa) := BP.out.cell 0
      have blp := BP.out.lt
      have k2 : IntKind.i64.wrap ((k : Int) + 1) = (k : Int) + 1 := IntWalk.i64_in _ (by omega)
      obtain ⟨xC, xnC, xcC, xW, xnW, xcW, xg⟩ := x
      dsimp only at c0 c1 c2 hgn
      have HD := Lib.hid (fun (W : World) (hB : Below wr.heap.size wr W) => HLK.out W ⟨xC, xnC, xcC, xW, xnW, xcW, xg⟩ d (List.mem_of_getElem? hd) (hr.below hB))
      unfold DA.v at HD
      dsimp only at HD
      have BA := Lib.hid (below_alloc (Below.refl wr.heap.size wr) (.cells #[.slice xC xnC xcC, .slice xW xnW xcW, .bool xg] 51))
      clear he hd hr
      cases hg : xg
      · subst hg
        have HE := Lib.hid (show colI pa d = lookK d pa by unfold colI; rw [hgn]; rfl)
        generalize lookK d pa = lk at *
        clear hgn
        go_wp2_with fail
        refine Calls.mono (HD.out _ BA.out) ?_
        rintro e w2 ⟨rfl, hB⟩
        have hB3 := below_below BA.out hB
        have HO2 := Lib.hid (ownsRow_below' HO.out hB3)
        have BR2 := Lib.hid (BR.out.below hB3)
        have BP2 := Lib.hid (BP.out.below hB3)
        have HB2 := Lib.hid (below_below HB.out hB3)
        have hO2 := HO2.out
        have hl : (cellsOf encS 1 ((ds.map (colI pa)).take k ++ List.replicate (3 - k) ⟨#[]⟩)).length = 3 * 1 := hO2.1
        obtain ⟨v0, hv0⟩ : ∃ v0, w2.cell? ⟨w.heap.size + 1 + 1, k, none⟩ = some v0 := ⟨_, (hO2.cellAt k (by omega)).trans (List.getElem?_eq_getElem (by omega))⟩
        have hf0 := hO2.frozenAt k
        clear hB hB3 hO2 hl
        go_wp2_with fail
        go_roundw
        case rel =>
          refine ⟨k + 1, by omega, by go_num, Lib.hid ?_, Lib.hid (BR2.out.set (by dsimp only; omega) _), Lib.hid (BP2.out.set (by dsimp only; omega) _), Lib.hid (below_set HB2.out (by dsimp only; omega) _)⟩
          have h1 := (HO2.out.stored k (.string lk)).1
          have e := cellsOf_set1 (enc := encS) ((ds.map (colI pa)).take k ++ List.replicate (3 - k) ⟨#[]⟩) k lk (by have := HC3.out; simp at this; simp [this]; omega)
          have e2 := fill_set (ds.map (colI pa)) k lk ⟨#[]⟩ (by rw [HCk.out, HE.out])
          rw [HC3.out] at e2
          rw [e2] at e
          rw [← e]
          exact h1
        case measure => simp [intOf]; omega
      · subst hg
        have HE := Lib.hid (show colI pa d = ⟨#[]⟩ by unfold colI; rw [hgn]; rfl)
        have HO2 := Lib.hid (by
          have e2 := fill_same (ds.map (colI pa)) k ⟨#[]⟩ (by rw [HCk.out, HE.out])
          rw [HC3.out] at e2
          have := ownsRow_below' HO.out BA.out
          rw [e2] at this
          exact this)
        have BR2 := Lib.hid (BR.out.below BA.out)
        have BP2 := Lib.hid (BP.out.below BA.out)
        have HB2 := Lib.hid (below_below HB.out BA.out)
        clear hgn HD HO
        go_wp2_with fail
        go_roundw
        case rel => exact ⟨k + 1, by omega, by go_num, HO2, BR2, BP2, HB2⟩
        case measure => simp [intOf]; omega
    · obtain rfl : k = 3 := by omega
      obtain ⟨wz, rfl⟩ : ∃ wz, wz = wr := ⟨wr, rfl⟩
      have HRow := Lib.hid (by
        have h1 := HO.out
        rw [List.take_of_length_le (by rw [HC3.out]; omega), Nat.sub_self, List.replicate_zero, List.append_nil] at h1
        have h2 : Own encS 1 9 (w.heap.size + 1 + 1) wz (.slice (some ⟨w.heap.size + 1 + 1, 0, none⟩) 3 3) (ds.map (colI pa)) := by unfold Own; rw [HC3.out]; exact h1
        obtain ⟨A', cap', e, _, _, _, hr⟩ := h2.form
        injection e with e1 e2 e3
        subst e1
        exact hr : RdT encS 1 wz (some ⟨w.heap.size + 1 + 1, 0, none⟩) (ds.map (colI pa)))
      have HSJ := Lib.hid (fun (W : World) (hB : Below wz.heap.size wz W) lost l0 l1 => stripeJoin_any W (some ⟨w.heap.size + 1 + 1, 0, none⟩) 3 (ds.map (colI pa)) HC3.out (HRow.out.below hB) (Nat.le_refl _) (by omega) sz z1 z2 HCZ.out lost l0 l1)
      have HRZ := Lib.hid (HRR.out.below HB.out)
      have HJS := Lib.hid (fun lost t (h : joinL (ds.map (colI pa)) sz lost = some t) => joinL_size z2 h)
      generalize (ds.map (colI pa)) = cs at *
      clear HLK HCZ HCK HRR HO HRow HC3 hlt hk
      go_wp2_with fail
      go_loopw [9] (fun y wr => ∃ lost : Int, y = .int .i64 lost ∧ -1 ≤ lost ∧ lost ≤ 2 ∧ Hid (∀ k, -1 ≤ k → k < lost → wayK ds ⟨pa, pb, (sz : Int), pu, pl⟩ k = none) ∧ Hid (Below wz.heap.size wz wr)) (fun y _ => (2 - intOf y).toNat)
      case atStart => exact ⟨-1, rfl, by omega, by omega, Lib.hid (fun k h0 h1 => by omega), Lib.hid (Below.refl _ _)⟩
      case round =>
        obtain ⟨lost, rfl, l0, l1, HN, HBz⟩ := hrel
        obtain ⟨wy, rfl⟩ : ∃ wy, wy = wr := ⟨wr, rfl⟩
        by_cases hlt : lost < 2
        · have bxr := (BR.out.below HBz.out).cell
          have bxl := (BR.out.below HBz.out).lt
          have HWGL := Lib.hid (HWG.out lost)
          have HWHL := Lib.hid (HWH.out lost)
          have k9 : IntKind.i64.wrap (lost + 1) = lost + 1 := IntWalk.i64_in _ (by omega)
          have HNX := Lib.hid (fun (h : wayK ds ⟨pa, pb, (sz : Int), pu, pl⟩ lost = none) => (show ∀ k, -1 ≤ k → k < lost + 1 → wayK ds ⟨pa, pb, (sz : Int), pu, pl⟩ k = none from fun k h0 h1 => by
            by_cases hk : k = lost
            · rw [hk]; exact h
            · exact HN.out k h0 (by omega)))
          have HSJL := Lib.hid (fun W hB => HSJ.out W hB lost l0 (by omega))
          have HJSL := Lib.hid (fun t => HJS.out lost t)
          go_wp2_with fail
          go_loopw [10, 42] (fun g i wr => ∃ k : Nat, k ≤ 3 ∧ i = .int .i64 k ∧ g = .bool (goneU lost ds k) ∧ Hid (Below wz.heap.size wz wr)) (fun _ i _ => 3 - (intOf i).toNat)
          case atStart => exact ⟨0, Nat.zero_le _, rfl, rfl, HBz⟩
          case round =>
            clear HBz bxr bxl
            obtain ⟨k, hk, rfl, rfl, HBy⟩ := hrel
            by_cases hkt : k < 3
            · obtain ⟨b, off, x, d, hA, hb, he, hd, hr, c0, c1, c2⟩ := rrd_at (HRZ.out.below HBy.out) (k := k) (by rw [HX3.out]; exact hkt)
              subst hA
              have hgn := hr.gn
              have HGS := Lib.hid (goneU_succ (lost := lost) hd)
              have kk2 : IntKind.i64.wrap ((k : Int) + 1) = (k : Int) + 1 := IntWalk.i64_in _ (by omega)
              obtain ⟨xC, xnC, xcC, xW, xnW, xcW, xg⟩ := x
              dsimp only at c0 c1 c2 hgn
              rw [hgn] at HGS
              have BA := Lib.hid (below_below HBy.out (below_alloc (Below.refl wr.heap.size wr) (.cells #[.slice xC xnC xcC, .slice xW xnW xcW, .bool xg] 51)))
              clear he hd hr hgn HSJL HJSL HWGL HWHL HNX HN HSJ HJS HWG HWH HHIT HMISS HFP
              cases hgg : goneU lost ds k
              · rw [hgg] at HGS
                cases hxg : xg
                · subst hxg
                  rw [Bool.and_false, Bool.or_false] at HGS
                  clear hgg
                  go_wp2_with fail
                  go_roundw
                  case rel => exact ⟨k + 1, by omega, by go_num, by rw [HGS.out], BA⟩
                  case measure => simp [intOf]; omega
                · subst hxg
                  rw [Bool.and_true, Bool.false_or] at HGS
                  clear hgg
                  by_cases n1 : (k : Int) = lost
                  · rw [used_a n1] at HGS
                    have n1b : ((k : Int) != lost) = false := by simp [n1]
                    clear n1
                    go_wp2_with fail
                    go_roundw
                    case rel => exact ⟨k + 1, by omega, by go_num, by rw [HGS.out], BA⟩
                    case measure => simp [intOf]; omega
                  · have n1b : ((k : Int) != lost) = true := by simpa using n1
                    by_cases n2 : (k : Int) < 2
                    · rw [used_b n1 n2] at HGS
                      clear n1
                      go_wp2_with fail
                      go_roundw
                      case rel => exact ⟨k + 1, by omega, by go_num, by rw [HGS.out], BA⟩
                      case measure => simp [intOf]; omega
                    · by_cases n3 : 0 ≤ lost
                      · rw [used_c n1 n3] at HGS
                        clear n1
                        go_wp2_with fail
                        go_roundw
                        case rel => exact ⟨k + 1, by omega, by go_num, by rw [HGS.out], BA⟩
                        case measure => simp [intOf]; omega
                      · rw [used_d n2 n3] at HGS
                        clear n1
                        go_wp2_with fail
                        go_roundw
                        case rel => exact ⟨k + 1, by omega, by go_num, by rw [HGS.out], BA⟩
                        case measure => simp [intOf]; omega
              · rw [hgg, Bool.true_or] at HGS
                clear hgg
                go_wp2_with fail
                go_roundw
                case rel => exact ⟨k + 1, by omega, by go_num, by rw [HGS.out], BA⟩
                case measure => simp [intOf]; omega
            · obtain rfl : k = 3 := by omega
              have bp := (BP.out.below HBy.out).cell
              have bpl := (BP.out.below HBy.out).lt
              have HBt := Lib.hid (below_below HB.out HBy.out)
              cases hg3 : goneU lost ds 3
              · have HE := Lib.hid (HWHL.out hg3)
                clear HWGL HWHL hg3 HRZ HSJ HWG HWH HJS
                go_wp2_with fail
                refine Calls.mono (HSJL.out _ HBy.out) ?_
                rintro e w2 ⟨rfl, hB⟩
                have bp2 := (BP.out.below (below_below HBy.out hB)).cell
                have bpl2 := (BP.out.below (below_below HBy.out hB)).lt
                have HB2 := Lib.hid (below_below HBy.out hB)
                have HBt2 := Lib.hid (below_below HBt.out hB)
                clear hB bp bpl
                cases hj : joinL cs sz lost with
                | none =>
                  have HNY := Lib.hid (HNX.out (by rw [HE.out, hj]; rfl))
                  unfold optS
                  dsimp only [Option.getD, Option.isSome]
                  clear hj HE HNX
                  go_wp2_with fail
                  exact ⟨⟨lost + 1, by go_num, by omega, by omega, HNY, HB2⟩, by simp [intOf]; omega⟩
                | some t =>
                  have ht := HJSL.out t hj
                  have HFT := Lib.hid (fun W => HFP.out W t (by omega))
                  unfold optS
                  dsimp only [Option.getD, Option.isSome]
                  cases hf : fitsB ⟨pa, pb, (sz : Int), pu, pl⟩ t
                  · rw [hf] at HFT
                    have HNY := Lib.hid (HNX.out (by rw [HE.out, hj]; exact fitO_no hf))
                    clear hj HE HNX hf
                    go_wp2_with fail
                    refine Calls.mono (HFT.out _) ?_
                    rintro e w3 ⟨rfl, hB⟩
                    have HB3 := Lib.hid (below_below HB2.out hB)
                    clear hB
                    go_wp2_with fail
                    go_roundw
                    case rel =>
                      repeat apply Exists.intro
                      refine ⟨?_, ?_⟩
                      rotate_left 1
                      · repeat' apply And.intro
                        all_goals rfl
                      · exact ⟨lost + 1, by go_num, by omega, by omega, HNY, HB3⟩
                    case measure => simp [intOf]; omega
                  · rw [hf] at HFT
                    have HRK := Lib.hid (HHIT.out lost l0 (by omega) HN.out t (by rw [HE.out, hj]; exact fitO_yes hf))
                    clear hj HE HNX hf HN HHIT HMISS
                    go_wp2_with fail
                    refine Calls.mono (HFT.out _) ?_
                    rintro e w3 ⟨rfl, hB⟩
                    have HB3 := Lib.hid (below_below HBt2.out hB)
                    clear hB
                    go_wp2_with fail
                    go_ret2
                    exact ⟨by rw [HRK.out]; rfl, HB3.out⟩
              · have HNY := Lib.hid (HNX.out (HWGL.out hg3))
                clear hg3
                go_wp2_with fail
                exact ⟨⟨lost + 1, by go_num, by omega, by omega, HNY, HBy⟩, by simp [intOf]; omega⟩
        · obtain rfl : lost = 2 := by omega
          have HRK := Lib.hid (HMISS.out HN.out)
          have HBt := Lib.hid (below_below HB.out HBz.out)
          clear HN HHIT HMISS
          go_wp2_with fail
          go_ret2
          exact ⟨by rw [HRK.out]; rfl, HBt.out⟩

end Go.Proofs.Ytamljoffmkcbnaa
