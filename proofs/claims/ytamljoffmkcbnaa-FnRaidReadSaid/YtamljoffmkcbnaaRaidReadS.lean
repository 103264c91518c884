/- What a pointer leads to in three disks: the reference's walk; both entries. -/
import Derived.Test.YtamljoffmkcbnaaRaidRead
import Derived.Test.YtamljoffmkcbnaaMany
namespace Go.Proofs.Ytamljoffmkcbnaa
open Go.RowKit
set_option maxRecDepth 100000
set_option linter.unusedVariables false
set_option linter.unusedSimpArgs false

theorem rd_oneSt (w : World) (s : ByteArray) : RdT encS 1 (w.alloc (.cells #[.string s] 9)) (some ⟨w.heap.size, 0, none⟩) [s] := fun _ => ⟨w.heap.size, 0, rfl, by simp, fun i y hy j hj => by
  have : i = 0 := by
    rcases i with _ | i
    · rfl
    · simp at hy
  subst this
  simp at hy
  subst hy
  obtain rfl : j = 0 := by omega
  unfold World.cell?
  simp only [heap_alloc_new]
  simp [encS]⟩
theorem own_allocSt {base : Nat} {w : World} {v : Value} {l : List ByteArray} (h : Own encS 1 9 base w v l) (o : Obj) : Own encS 1 9 base (w.alloc o) v l := h.below ((Below.refl _ _).alloc (Nat.le_refl _) o)
theorem own_baseSt {base : Nat} {w : World} {v : Value} {xs : List ByteArray} (h : Own encS 1 9 base w v xs) : ∀ k, v.ownBlock = some k → base ≤ k := by
  rcases h.2 with ⟨rfl, _⟩ | ⟨g, cap, cur, rfl, hg, _⟩
  · intro k hk; simp [Value.ownBlock] at hk
  · intro k hk; simp [Value.ownBlock] at hk; omega
theorem box_grown {w w' : World} {b base : Nat} {cs : Array Value} {T : TypeId} {v : Value} {xs : List ByteArray} (h : BoxAt w b cs T) (ho : Own encS 1 9 base w v xs) (hg : w.grownBy w' v.ownBlock) (hb : b < base) : BoxAt w' b cs T :=
  (hg.block b h.lt (fun e => by have := own_baseSt ho b e.symm; omega)).trans h

def ColsP (w : World) (a : Int) (ds : List Dk) (e : Ending) (w' : World) : Prop := ∃ A cap cs, e = .returned (.slice A 3 cap) ∧ RdT encS 1 w' A cs ∧ 3 ≤ cap ∧ cap ≤ 9223372036854775807 ∧ cs.length = 3 ∧ ColsS a ds cs ∧ (∀ s ∈ cs, s.size ≤ 1000) ∧ Below w.heap.size w w'
theorem cols_size {a : Int} {ds : List Dk} {cs : List ByteArray} (hok : ∀ d ∈ ds, diskB d = true) (h : ColsS a ds cs) : ∀ s ∈ cs, s.size ≤ 1000 := fun s hs => by
  obtain ⟨i, hi, rfl⟩ := List.getElem_of_mem hs
  have hi' : i < ds.length := by rw [← h.1]; exact hi
  have := h.2 i ds[i] cs[i] (List.getElem?_eq_getElem hi') (List.getElem?_eq_getElem hi)
  cases hg : ds[i].gone
  · rw [this.2 hg]; have := look_size (hok _ (List.getElem_mem hi')) a; omega
  · rw [this.1 hg]; omega

set_option maxHeartbeats 4000000 in
theorem l4Cols_any (w : World) (A : Option Addr) (cap : Nat) (xs : List DA) (ds : List Dk) (a : Int) (h : RRd w A cap xs ds) (hok : raidB ds = true) (ha : inB a 0 63 = true) :
    Calls Try.prog 57 #[.agg #[.slice A 3 cap], .int .i64 a] w (ColsP w a ds) := by
  obtain ⟨h3, hds⟩ := raid_ok hok
  have HX3 := Lib.hid (show xs.length = 3 by rw [← h.len]; exact h3)
  have hcap : 3 ≤ cap := by have := h.hc; have := HX3.out; omega
  have hcm := h.mc
  have HRR := Lib.hid h
  have HLK := Lib.hid (fun (W : World) (x : DA) (d : Dk) (hm : d ∈ ds) (hr : DRd W x d) => l3Read_any W x d a hr ha (disk_ok (hds d hm)).1)
  have HMY := Lib.hid (fun W => l6Many_any ⟨#[120]⟩ 200 W (by decide) (by omega))
  have HFIN := Lib.hid (fun (cs : List ByteArray) (hc : ColsS a (ds.take 3) cs) => (show ColsS a ds cs ∧ cs.length = 3 ∧ ∀ s ∈ cs, s.size ≤ 1000 by
    rw [List.take_of_length_le (by omega)] at hc
    exact ⟨hc, hc.1.trans h3, cols_size hds hc⟩))
  have HD3 := Lib.hid h3
  clear h3 hds hok ha h
  have BR0 := Lib.hid ((box_new w #[.slice A 3 cap] 25).alloc (.cells #[] 9))
  have HBa := Lib.hid (below_alloc (below_alloc (Below.refl w.heap.size w) (.cells #[.slice A 3 cap] 25)) (.cells #[] 9))
  have HO0 := Own.empty (enc := encS) (sz := 1) (T := 9) (base := w.heap.size + 1) (w := w.alloc (.cells #[.slice A 3 cap] 25)) (by simp)
  rw [World.size_alloc] at HO0
  replace HO0 := Lib.hid HO0
  go_enter Try.func57, Try.ntmps57
  go_wp2_with fail
  go_loopw [5, 6] (fun v i wr => ∃ (k : Nat) (cs : List ByteArray), k ≤ 3 ∧ i = .int .i64 k ∧ Hid (Own encS 1 9 (w.heap.size + 1) wr v cs) ∧ cs.length ≤ 3 ∧ Hid (ColsS a (ds.take k) cs) ∧ Hid (BoxAt wr w.heap.size #[.slice A 3 cap] 25) ∧ Hid (Below w.heap.size w wr)) (fun _ i _ => 3 - (intOf i).toNat)
  case atStart => exact ⟨0, [], Nat.zero_le _, rfl, HO0, by simp, Lib.hid ⟨rfl, fun i d c hd hc => by simp at hc⟩, BR0, HBa⟩
  case round =>
    clear HO0 BR0 HBa
    obtain ⟨k, cs, hk, rfl, HO, hl3, HC, BR, HB⟩ := hrel
    have bx := BR.out.cell
    have bl := BR.out.lt
    by_cases hlt : k < 3
    · obtain ⟨b, off, x, d, hA, hb, he, hd, hr, c0, c1, c2⟩ := rrd_at (HRR.out.below HB.out) (k := k) (by rw [HX3.out]; exact hlt)
      subst hA
      have hgn := hr.gn
      have k2 : IntKind.i64.wrap ((k : Int) + 1) = (k : Int) + 1 := IntWalk.i64_in _ (by omega)
      have KA := Lib.hid (And.intro (show (cs.length + 1) * 16 ≤ 140737488355328 by omega) (show cs.length + 1 ≤ maxLen by unfold maxLen; omega))
      obtain ⟨xC, xnC, xcC, xW, xnW, xcW, xg⟩ := x
      dsimp only at c0 c1 c2 hgn
      have HCS := Lib.hid (fun c (h : (d.gone = true → c.size = 200) ∧ (d.gone = false → c = lookK d a)) => (show ColsS a (ds.take (k + 1)) (cs ++ [c]) from cols_step HC.out hd h))
      have HLC := Lib.hid (show cs.length = k by rw [HC.out.1, List.length_take]; have := HD3.out; omega)
      have HD := Lib.hid (HLK.out wr ⟨xC, xnC, xcC, xW, xnW, xcW, xg⟩ d (List.mem_of_getElem? hd) hr)
      unfold DA.v at HD
      dsimp only at HD
      clear he hd hr
      cases hg : xg
      · subst hg
        have HE := Lib.hid (HCS.out (lookK d a) ⟨fun h => (by rw [hgn] at h; cases h), fun _ => rfl⟩)
        generalize lookK d a = lk at *
        clear hgn HCS HLK HMY HC
        go_wp2_with (first
          | (go_at_call 82; refine Calls.mono HD.out ?_; rintro e w2 ⟨rfl, hB⟩; have HO2 := Lib.hid (HO.out.below hB); have BR2 := Lib.hid (BR.out.below hB); have HB2 := Lib.hid (below_below HB.out hB); clear hB)
          | (at_builtin; refine wpList_app (ys := ([lk] : List ByteArray)) elS rfl _ _ rfl (by rfl) (own_allocSt HO2.out _) (by rfl) rfl (rd_oneSt _ _) oneS KA.out.1 KA.out.2 (by have := BR2.out.lt; simp; omega) ?_; intro v1 w4 ownv1 grv1 atv1; have O4 := Lib.hid ownv1; have B4 := Lib.hid (below_alloc HB2.out (.cells #[.string lk] 9) |>.grown grv1 (by have := BR2.out.lt; have := HB2.out.size; simp; omega) (fun k hk => by have := own_baseSt HO2.out k hk; omega)); have R4 := Lib.hid (box_grown (BR2.out.alloc (.cells #[.string lk] 9)) (own_allocSt HO2.out _) grv1 (by omega)); clear ownv1 grv1 atv1))
        go_roundw
        case rel => exact ⟨k + 1, cs ++ [lk], by omega, by go_num, O4, by simp; have := HLC.out; omega, HE, R4, B4⟩
        case measure => simp [intOf]; omega
      · subst hg
        clear HD HLK HC
        go_wp2_with (first
          | (go_at_call 81; refine Calls.mono (HMY.out _) ?_; rintro e w2 ⟨⟨lk, rfl, hlk⟩, rfl⟩; have HE := Lib.hid (HCS.out lk ⟨fun _ => hlk, fun h => (by rw [hgn] at h; cases h)⟩); clear hlk)
          | (at_builtin; refine wpList_app (ys := ([lk] : List ByteArray)) elS rfl _ _ rfl (by rfl) (own_allocSt HO.out _) (by rfl) rfl (rd_oneSt _ _) oneS KA.out.1 KA.out.2 (by have := BR.out.lt; simp; omega) ?_; intro v1 w4 ownv1 grv1 atv1; have O4 := Lib.hid ownv1; have B4 := Lib.hid (below_alloc HB.out (.cells #[.string lk] 9) |>.grown grv1 (by have := BR.out.lt; have := HB.out.size; simp; omega) (fun k hk => by have := own_baseSt HO.out k hk; omega)); have R4 := Lib.hid (box_grown (BR.out.alloc (.cells #[.string lk] 9)) (own_allocSt HO.out _) grv1 (by omega)); clear ownv1 grv1 atv1))
        go_roundw
        case rel => exact ⟨k + 1, cs ++ [lk], by omega, by go_num, O4, by simp; have := HLC.out; omega, HE, R4, B4⟩
        case measure => simp [intOf]; omega
    · obtain rfl : k = 3 := by omega
      obtain ⟨hcs, hc3, hcz⟩ := HFIN.out cs HC.out
      obtain ⟨A2, cap2, rfl, hle, hcm2, _, hrd⟩ := HO.out.form
      have HP := Lib.hid (show ColsP w a ds (.returned (.slice A2 cs.length cap2)) wr by
        rw [hc3] at hle ⊢
        exact ⟨A2, cap2, cs, rfl, hrd, hle, hcm2, hc3, hcs, hcz, HB.out⟩)
      clear hcs hc3 hcz hle hrd HC HO HFIN HLK HMY
      generalize cs.length = n at *
      go_wp2_with fail
      go_ret
      exact HP.out

set_option maxHeartbeats 4000000 in
theorem l4Read_any (w : World) (A : Option Addr) (cap : Nat) (xs : List DA) (ds : List Dk) (p : Pt) (h : RRd w A cap xs ds) (hok : raidB ds = true) (hp : ptrB p = true) (hh : holeB p = false) :
    Calls Try.prog 35 #[.agg #[.slice A 3 cap], p.v] w fun e w' => e = .returned (.tuple #[.string (optS (readK ds p)), .bool (readK ds p).isSome]) ∧ Below w.heap.size w w' := by
  obtain ⟨hat, hps⟩ := ptr_ok hp hh
  obtain ⟨sz, hsz⟩ : ∃ sz : Nat, p.size = (sz : Int) := ⟨p.size.toNat, by have := (inB_true hps).1; omega⟩
  have z1 : 1 ≤ sz := by have := (inB_true hps).1; omega
  have z2 : sz ≤ 128 := by have := (inB_true hps).2; omega
  have HCO := Lib.hid (fun (W : World) (hB : Below w.heap.size w W) => l4Cols_any W A cap xs ds p.at_ (h.below hB) hok hat)
  have HWA := Lib.hid (fun cs (hc : ColsS p.at_ ds cs) lost (l0 : -1 ≤ lost) (l1 : lost ≤ 1) => (show fitO p (joinL cs sz lost) = wayK ds p lost by have := way_agree (p := p) hok hps hc lost l0 l1; rw [hsz] at this; exact this))
  have HFP := Lib.hid (fun W (s : ByteArray) hs => specPtrFits_any p s W hs)
  have HHIT := Lib.hid (fun l h0 h1 hn t ht => (show readK ds p = some t from firstO_hit (f := wayK ds p) (l := l) h0 h1 hn ht))
  have HMISS := Lib.hid (fun hn => (show readK ds p = none from firstO_miss (f := wayK ds p) (l := 2) rfl hn))
  generalize hrk : readK ds p = rk at *
  clear hrk hps hok hp hh h hat
  obtain ⟨pa, pb, ps, pu, pl⟩ := p
  unfold Pt.v at *
  dsimp only at *
  subst hsz
  have HBa := Lib.hid (below_alloc (below_alloc (Below.refl w.heap.size w) (.cells #[.slice A 3 cap] 25)) (.cells #[.int .i64 pa, .int .i64 pb, .int .i64 sz, .int .i64 pu, .int .i64 pl] 29))
  have BP0 := box_new (w.alloc (.cells #[.slice A 3 cap] 25)) #[.int .i64 pa, .int .i64 pb, .int .i64 sz, .int .i64 pu, .int .i64 pl] 29
  rw [World.size_alloc] at BP0
  replace BP0 := Lib.hid BP0
  have COL := Lib.hid (HCO.out _ HBa.out)
  clear HCO
  go_enter Try.func35, Try.ntmps35
  go_wp2_with fail
  refine Calls.mono COL.out ?_
  rintro e wz ⟨A2, cap2, cs, rfl, hrd, hc3, hcm, hcl, hcs, hcz, hB⟩
  have BP := Lib.hid (BP0.out.below hB)
  have HB := Lib.hid (below_below HBa.out hB)
  have HSJ := Lib.hid (fun (W : World) (hB : Below wz.heap.size wz W) lost l0 l1 => specStripeJoin_any W A2 cap2 cs hcl (hrd.below hB) hc3 hcm sz z1 z2 hcz lost l0 l1)
  have HJS := Lib.hid (fun lost t (h : joinL cs sz lost = some t) => joinL_size z2 h)
  have HWC := Lib.hid (HWA.out cs hcs)
  clear hB hrd hcl hcs hcz HWA BP0 HBa COL
  go_wp2_with fail
  go_loopw [7] (fun y wr => ∃ lost : Int, y = .int .i64 lost ∧ -1 ≤ lost ∧ lost ≤ 2 ∧ Hid (∀ k, -1 ≤ k → k < lost → wayK ds ⟨pa, pb, (sz : Int), pu, pl⟩ k = none) ∧ Hid (Below wz.heap.size wz wr)) (fun y _ => (2 - intOf y).toNat)
  case atStart => exact ⟨-1, rfl, by omega, by omega, Lib.hid (fun k h0 h1 => by omega), Lib.hid (Below.refl _ _)⟩
  case round =>
    obtain ⟨lost, rfl, l0, l1, HN, HBz⟩ := hrel
    by_cases hlt : lost ≤ 1
    · have k9 : IntKind.i64.wrap (lost + 1) = lost + 1 := IntWalk.i64_in _ (by omega)
      have HNX := Lib.hid (fun (h : wayK ds ⟨pa, pb, (sz : Int), pu, pl⟩ lost = none) => (show ∀ k, -1 ≤ k → k < lost + 1 → wayK ds ⟨pa, pb, (sz : Int), pu, pl⟩ k = none from fun k h0 h1 => by
        by_cases hk : k = lost
        · rw [hk]; exact h
        · exact HN.out k h0 (by omega)))
      have HSJL := Lib.hid (fun W hB => HSJ.out W hB lost l0 (by omega))
      have HE := Lib.hid (HWC.out lost l0 hlt).symm
      have HJSL := Lib.hid (fun t => HJS.out lost t)
      have bp := (BP.out.below HBz.out).cell
      have bpl := (BP.out.below HBz.out).lt
      have HBt := Lib.hid (below_below HB.out HBz.out)
      clear HSJ HJS HWC
      go_wp2_with fail
      refine Calls.mono (HSJL.out _ HBz.out) ?_
      rintro e w2 ⟨rfl, hB⟩
      have bp2 := (BP.out.below (below_below HBz.out hB)).cell
      have bpl2 := (BP.out.below (below_below HBz.out hB)).lt
      have HB2 := Lib.hid (below_below HBz.out hB)
      have HBt2 := Lib.hid (below_below HBt.out hB)
      clear hB bp bpl
      cases hj : joinL cs sz lost with
      | none =>
        have HNY := Lib.hid (HNX.out (by rw [HE.out, hj]; rfl))
        unfold optS
        dsimp only [Option.getD, Option.isSome]
        clear hj HE HNX
        go_wp2_with fail
        exact ⟨⟨lost + 1, by go_num, by omega, by omega, HNY, HB2⟩, by simp [intOf]; omega⟩
      | some t =>
        have ht := HJSL.out t hj
        have HFT := Lib.hid (fun W => HFP.out W t (by omega))
        unfold optS
        dsimp only [Option.getD, Option.isSome]
        cases hf : fitsB ⟨pa, pb, (sz : Int), pu, pl⟩ t
        · rw [hf] at HFT
          have HNY := Lib.hid (HNX.out (by rw [HE.out, hj]; exact fitO_no hf))
          clear hj HE HNX hf
          go_wp2_with fail
          refine Calls.mono (HFT.out _) ?_
          rintro e w3 ⟨rfl, hB⟩
          have HB3 := Lib.hid (below_below HB2.out hB)
          clear hB
          go_wp2_with fail
          exact ⟨⟨lost + 1, by go_num, by omega, by omega, HNY, HB3⟩, by simp [intOf]; omega⟩
        · rw [hf] at HFT
          have HRK := Lib.hid (HHIT.out lost l0 (by omega) HN.out t (by rw [HE.out, hj]; exact fitO_yes hf))
          clear hj HE HNX hf HN HHIT HMISS
          go_wp2_with fail
          refine Calls.mono (HFT.out _) ?_
          rintro e w3 ⟨rfl, hB⟩
          have HB3 := Lib.hid (below_below HBt2.out hB)
          clear hB
          go_wp2_with fail
          go_ret2
          exact ⟨by rw [HRK.out]; rfl, HB3.out⟩
    · obtain rfl : lost = 2 := by omega
      have HRK := Lib.hid (HMISS.out HN.out)
      have HBt := Lib.hid (below_below HB.out HBz.out)
      clear HN HHIT HMISS
      go_wp2_with fail
      go_ret2
      exact ⟨by rw [HRK.out]; rfl, HBt.out⟩

set_option maxHeartbeats 2000000 in
theorem raidRead_any (w : World) (A : Option Addr) (cap : Nat) (xs : List DA) (ds : List Dk) (p : Pt) (h : RRd w A cap xs ds) :
    Calls Try.prog 10 #[.agg #[.slice A xs.length cap], p.v] w fun e w' => e = .returned (.tuple #[.string (optS (rrK ds p)), .bool (rrK ds p).isSome]) ∧ Below w.heap.size w w' := by
  have HOK := Lib.hid (fun (W : World) (hB : Below w.heap.size w W) => raidOk_any W A cap xs ds (h.below hB))
  have HP := Lib.hid (ptrOk_any p)
  have HH := Lib.hid (ptrHole_any p)
  have HRD := Lib.hid (fun (W : World) (hB : Below w.heap.size w W) hok hp hh => rread_any W A cap xs ds p (h.below hB) hok hp hh)
  have HL := Lib.hid (fun (hok : raidB ds = true) => (show xs.length = 3 by rw [← h.len]; exact (raid_ok hok).1))
  unfold rrK
  have hcc := h.hc
  have hcm := h.mc
  clear h
  cases hok : raidB ds
  · rw [hok] at HOK
    generalize xs.length = n at *
    clear HRD HL hok
    obtain ⟨pa, pb, ps, pu, pl⟩ := p
    unfold Pt.v at *
    dsimp only at *
    have HBa := Lib.hid (below_alloc (below_alloc (Below.refl w.heap.size w) (.cells #[.slice A n cap] 25)) (.cells #[.int .i64 pa, .int .i64 pb, .int .i64 ps, .int .i64 pu, .int .i64 pl] 29))
    have OK1 := Lib.hid (HOK.out _ HBa.out)
    clear HOK HP HH
    go_enter Try.func10, Try.ntmps10
    go_wp2_with fail
    refine Calls.mono OK1.out ?_
    rintro e w2 ⟨rfl, hB⟩
    have HB2 := Lib.hid (below_below HBa.out hB)
    clear hB
    go_wp2_with fail
    go_ret2
    exact ⟨rfl, HB2.out⟩
  · have h3 := HL.out hok
    rw [hok] at HOK
    rw [h3] at HOK hcc ⊢
    have HRD1 := Lib.hid (fun (W : World) (hB : Below w.heap.size w W) hp hh => HRD.out W hB hok hp hh)
    clear HRD HL h3 hok
    cases hp : ptrB p
    · rw [hp] at HP
      obtain ⟨pa, pb, ps, pu, pl⟩ := p
      unfold Pt.v at *
      dsimp only at *
      have HBa := Lib.hid (below_alloc (below_alloc (Below.refl w.heap.size w) (.cells #[.slice A 3 cap] 25)) (.cells #[.int .i64 pa, .int .i64 pb, .int .i64 ps, .int .i64 pu, .int .i64 pl] 29))
      have BP0 := box_new (w.alloc (.cells #[.slice A 3 cap] 25)) #[.int .i64 pa, .int .i64 pb, .int .i64 ps, .int .i64 pu, .int .i64 pl] 29
      rw [World.size_alloc] at BP0
      replace BP0 := Lib.hid BP0
      have OK1 := Lib.hid (HOK.out _ HBa.out)
      clear HOK HH HRD1 hp
      go_enter Try.func10, Try.ntmps10
      go_wp2_with fail
      refine Calls.mono OK1.out ?_
      rintro e w2 ⟨rfl, hB⟩
      have HB2 := Lib.hid (below_below HBa.out hB)
      have bp := (BP0.out.below hB).cell
      have bpl := (BP0.out.below hB).lt
      clear hB
      go_wp2_with fail
      refine Calls.mono (HP.out _) ?_
      rintro e w3 ⟨rfl, hB⟩
      have HB3 := Lib.hid (below_below HB2.out hB)
      clear hB bp bpl
      go_wp2_with fail
      go_ret2
      exact ⟨rfl, HB3.out⟩
    · rw [hp] at HP
      cases hh : holeB p
      · rw [hh] at HH
        have HRD2 := Lib.hid (fun (W : World) (hB : Below w.heap.size w W) => HRD1.out W hB hp hh)
        clear HRD1 hp hh
        generalize readK ds p = rk at *
        obtain ⟨pa, pb, ps, pu, pl⟩ := p
        unfold Pt.v at *
        dsimp only at *
        have HBa := Lib.hid (below_alloc (below_alloc (Below.refl w.heap.size w) (.cells #[.slice A 3 cap] 25)) (.cells #[.int .i64 pa, .int .i64 pb, .int .i64 ps, .int .i64 pu, .int .i64 pl] 29))
        have BP0 := box_new (w.alloc (.cells #[.slice A 3 cap] 25)) #[.int .i64 pa, .int .i64 pb, .int .i64 ps, .int .i64 pu, .int .i64 pl] 29
        rw [World.size_alloc] at BP0
        replace BP0 := Lib.hid BP0
        have BR0 := Lib.hid ((box_new w #[.slice A 3 cap] 25).alloc (.cells #[.int .i64 pa, .int .i64 pb, .int .i64 ps, .int .i64 pu, .int .i64 pl] 29))
        have OK1 := Lib.hid (HOK.out _ HBa.out)
        clear HOK
        go_enter Try.func10, Try.ntmps10
        go_wp2_with fail
        refine Calls.mono OK1.out ?_
        rintro e w2 ⟨rfl, hB⟩
        have HB2 := Lib.hid (below_below HBa.out hB)
        have BP2 := Lib.hid (BP0.out.below hB)
        have BR2 := Lib.hid (BR0.out.below hB)
        have bp := BP2.out.cell
        have bpl := BP2.out.lt
        clear hB BP0 BR0 HBa
        go_wp2_with fail
        refine Calls.mono (HP.out _) ?_
        rintro e w3 ⟨rfl, hB⟩
        have HB3 := Lib.hid (below_below HB2.out hB)
        have BP3 := Lib.hid (BP2.out.below hB)
        have BR3 := Lib.hid (BR2.out.below hB)
        clear hB bp bpl BP2 BR2 HB2
        have bp := BP3.out.cell
        have bpl := BP3.out.lt
        go_wp2_with fail
        refine Calls.mono (HH.out _) ?_
        rintro e w4 ⟨rfl, hB⟩
        have HB4 := Lib.hid (below_below HB3.out hB)
        have BP4 := Lib.hid (BP3.out.below hB)
        have BR4 := Lib.hid (BR3.out.below hB)
        clear hB bp bpl BP3 BR3 HB3
        have bp := BP4.out.cell
        have bpl := BP4.out.lt
        have bx := BR4.out.cell
        have bxl := BR4.out.lt
        have RD4 := Lib.hid (HRD2.out _ HB4.out)
        clear HRD2
        go_wp2_with fail
        refine Calls.mono RD4.out ?_
        rintro e w5 ⟨rfl, hB⟩
        have HB5 := Lib.hid (below_below HB4.out hB)
        clear hB bp bx
        go_wp2_with fail
        go_ret2
        exact ⟨rfl, HB5.out⟩
      · rw [hh] at HH
        obtain ⟨pa, pb, ps, pu, pl⟩ := p
        unfold Pt.v at *
        dsimp only at *
        have HBa := Lib.hid (below_alloc (below_alloc (Below.refl w.heap.size w) (.cells #[.slice A 3 cap] 25)) (.cells #[.int .i64 pa, .int .i64 pb, .int .i64 ps, .int .i64 pu, .int .i64 pl] 29))
        have BP0 := box_new (w.alloc (.cells #[.slice A 3 cap] 25)) #[.int .i64 pa, .int .i64 pb, .int .i64 ps, .int .i64 pu, .int .i64 pl] 29
        rw [World.size_alloc] at BP0
        replace BP0 := Lib.hid BP0
        have OK1 := Lib.hid (HOK.out _ HBa.out)
        clear HOK HRD1 hp hh
        go_enter Try.func10, Try.ntmps10
        go_wp2_with fail
        refine Calls.mono OK1.out ?_
        rintro e w2 ⟨rfl, hB⟩
        have HB2 := Lib.hid (below_below HBa.out hB)
        have BP2 := Lib.hid (BP0.out.below hB)
        have bp := BP2.out.cell
        have bpl := BP2.out.lt
        clear hB
        go_wp2_with fail
        refine Calls.mono (HP.out _) ?_
        rintro e w3 ⟨rfl, hB⟩
        have HB3 := Lib.hid (below_below HB2.out hB)
        have BP3 := Lib.hid (BP2.out.below hB)
        clear hB bp bpl
        have bp := BP3.out.cell
        have bpl := BP3.out.lt
        go_wp2_with fail
        refine Calls.mono (HH.out _) ?_
        rintro e w4 ⟨rfl, hB⟩
        have HB4 := Lib.hid (below_below HB3.out hB)
        clear hB bp bpl
        go_wp2_with fail
        go_ret2
        exact ⟨rfl, HB4.out⟩

set_option maxHeartbeats 2000000 in
theorem specRaidRead_any (w : World) (A : Option Addr) (cap : Nat) (xs : List DA) (ds : List Dk) (p : Pt) (h : RRd w A cap xs ds) (hn : xs.length ≤ 1048576) :
    Calls Try.prog 13 #[.agg #[.slice A xs.length cap], p.v] w fun e w' => e = .returned (.tuple #[.string (optS (rrK ds p)), .bool (rrK ds p).isSome]) ∧ Below w.heap.size w w' := by
  have HOK := Lib.hid (fun (W : World) (hB : Below w.heap.size w W) => specRaidOk_any W A cap xs ds (h.below hB) hn)
  have HP := Lib.hid (specPtrOk_any p)
  have HH := Lib.hid (specPtrHole_any p)
  have HRD := Lib.hid (fun (W : World) (hB : Below w.heap.size w W) hok hp hh => l4Read_any W A cap xs ds p (h.below hB) hok hp hh)
  have HL := Lib.hid (fun (hok : raidB ds = true) => (show xs.length = 3 by rw [← h.len]; exact (raid_ok hok).1))
  unfold rrK
  have hcc := h.hc
  have hcm := h.mc
  clear h hn
  cases hok : raidB ds
  · rw [hok] at HOK
    generalize xs.length = n at *
    clear HRD HL hok
    obtain ⟨pa, pb, ps, pu, pl⟩ := p
    unfold Pt.v at *
    dsimp only at *
    have HBa := Lib.hid (below_alloc (below_alloc (Below.refl w.heap.size w) (.cells #[.slice A n cap] 25)) (.cells #[.int .i64 pa, .int .i64 pb, .int .i64 ps, .int .i64 pu, .int .i64 pl] 29))
    have OK1 := Lib.hid (HOK.out _ HBa.out)
    clear HOK HP HH
    go_enter Try.func13, Try.ntmps13
    go_wp2_with fail
    refine Calls.mono OK1.out ?_
    rintro e w2 ⟨rfl, hB⟩
    have HB2 := Lib.hid (below_below HBa.out hB)
    clear hB
    go_wp2_with fail
    go_ret2
    exact ⟨rfl, HB2.out⟩
  · have h3 := HL.out hok
    rw [hok] at HOK
    rw [h3] at HOK hcc ⊢
    have HRD1 := Lib.hid (fun (W : World) (hB : Below w.heap.size w W) hp hh => HRD.out W hB hok hp hh)
    clear HRD HL h3 hok
    cases hp : ptrB p
    · rw [hp] at HP
      obtain ⟨pa, pb, ps, pu, pl⟩ := p
      unfold Pt.v at *
      dsimp only at *
      have HBa := Lib.hid (below_alloc (below_alloc (Below.refl w.heap.size w) (.cells #[.slice A 3 cap] 25)) (.cells #[.int .i64 pa, .int .i64 pb, .int .i64 ps, .int .i64 pu, .int .i64 pl] 29))
      have BP0 := box_new (w.alloc (.cells #[.slice A 3 cap] 25)) #[.int .i64 pa, .int .i64 pb, .int .i64 ps, .int .i64 pu, .int .i64 pl] 29
      rw [World.size_alloc] at BP0
      replace BP0 := Lib.hid BP0
      have OK1 := Lib.hid (HOK.out _ HBa.out)
      clear HOK HH HRD1 hp
      go_enter Try.func13, Try.ntmps13
      go_wp2_with fail
      refine Calls.mono OK1.out ?_
      rintro e w2 ⟨rfl, hB⟩
      have HB2 := Lib.hid (below_below HBa.out hB)
      have bp := (BP0.out.below hB).cell
      have bpl := (BP0.out.below hB).lt
      clear hB
      go_wp2_with fail
      refine Calls.mono (HP.out _) ?_
      rintro e w3 ⟨rfl, hB⟩
      have HB3 := Lib.hid (below_below HB2.out hB)
      clear hB bp bpl
      go_wp2_with fail
      go_ret2
      exact ⟨rfl, HB3.out⟩
    · rw [hp] at HP
      cases hh : holeB p
      · rw [hh] at HH
        have HRD2 := Lib.hid (fun (W : World) (hB : Below w.heap.size w W) => HRD1.out W hB hp hh)
        clear HRD1 hp hh
        generalize readK ds p = rk at *
        obtain ⟨pa, pb, ps, pu, pl⟩ := p
        unfold Pt.v at *
        dsimp only at *
        have HBa := Lib.hid (below_alloc (below_alloc (Below.refl w.heap.size w) (.cells #[.slice A 3 cap] 25)) (.cells #[.int .i64 pa, .int .i64 pb, .int .i64 ps, .int .i64 pu, .int .i64 pl] 29))
        have BP0 := box_new (w.alloc (.cells #[.slice A 3 cap] 25)) #[.int .i64 pa, .int .i64 pb, .int .i64 ps, .int .i64 pu, .int .i64 pl] 29
        rw [World.size_alloc] at BP0
        replace BP0 := Lib.hid BP0
        have BR0 := Lib.hid ((box_new w #[.slice A 3 cap] 25).alloc (.cells #[.int .i64 pa, .int .i64 pb, .int .i64 ps, .int .i64 pu, .int .i64 pl] 29))
        have OK1 := Lib.hid (HOK.out _ HBa.out)
        clear HOK
        go_enter Try.func13, Try.ntmps13
        go_wp2_with fail
        refine Calls.mono OK1.out ?_
        rintro e w2 ⟨rfl, hB⟩
        have HB2 := Lib.hid (below_below HBa.out hB)
        have BP2 := Lib.hid (BP0.out.below hB)
        have BR2 := Lib.hid (BR0.out.below hB)
        have bp := BP2.out.cell
        have bpl := BP2.out.lt
        clear hB BP0 BR0 HBa
        go_wp2_with fail
        refine Calls.mono (HP.out _) ?_
        rintro e w3 ⟨rfl, hB⟩
        have HB3 := Lib.hid (below_below HB2.out hB)
        have BP3 := Lib.hid (BP2.out.below hB)
        have BR3 := Lib.hid (BR2.out.below hB)
        clear hB bp bpl BP2 BR2 HB2
        have bp := BP3.out.cell
        have bpl := BP3.out.lt
        go_wp2_with fail
        refine Calls.mono (HH.out _) ?_
        rintro e w4 ⟨rfl, hB⟩
        have HB4 := Lib.hid (below_below HB3.out hB)
        have BP4 := Lib.hid (BP3.out.below hB)
        have BR4 := Lib.hid (BR3.out.below hB)
        clear hB bp bpl BP3 BR3 HB3
        have bp := BP4.out.cell
        have bpl := BP4.out.lt
        have bx := BR4.out.cell
        have bxl := BR4.out.lt
        have RD4 := Lib.hid (HRD2.out _ HB4.out)
        clear HRD2
        go_wp2_with fail
        refine Calls.mono RD4.out ?_
        rintro e w5 ⟨rfl, hB⟩
        have HB5 := Lib.hid (below_below HB4.out hB)
        clear hB bp bx
        go_wp2_with fail
        go_ret2
        exact ⟨rfl, HB5.out⟩
      · rw [hh] at HH
        obtain ⟨pa, pb, ps, pu, pl⟩ := p
        unfold Pt.v at *
        dsimp only at *
        have HBa := Lib.hid (below_alloc (below_alloc (Below.refl w.heap.size w) (.cells #[.slice A 3 cap] 25)) (.cells #[.int .i64 pa, .int .i64 pb, .int .i64 ps, .int .i64 pu, .int .i64 pl] 29))
        have BP0 := box_new (w.alloc (.cells #[.slice A 3 cap] 25)) #[.int .i64 pa, .int .i64 pb, .int .i64 ps, .int .i64 pu, .int .i64 pl] 29
        rw [World.size_alloc] at BP0
        replace BP0 := Lib.hid BP0
        have OK1 := Lib.hid (HOK.out _ HBa.out)
        clear HOK HRD1 hp hh
        go_enter Try.func13, Try.ntmps13
        go_wp2_with fail
        refine Calls.mono OK1.out ?_
        rintro e w2 ⟨rfl, hB⟩
        have HB2 := Lib.hid (below_below HBa.out hB)
        have BP2 := Lib.hid (BP0.out.below hB)
        have bp := BP2.out.cell
        have bpl := BP2.out.lt
        clear hB
        go_wp2_with fail
        refine Calls.mono (HP.out _) ?_
        rintro e w3 ⟨rfl, hB⟩
        have HB3 := Lib.hid (below_below HB2.out hB)
        have BP3 := Lib.hid (BP2.out.below hB)
        clear hB bp bpl
        have bp := BP3.out.cell
        have bpl := BP3.out.lt
        go_wp2_with fail
        refine Calls.mono (HH.out _) ?_
        rintro e w4 ⟨rfl, hB⟩
        have HB4 := Lib.hid (below_below HB3.out hB)
        clear hB bp bpl
        go_wp2_with fail
        go_ret2
        exact ⟨rfl, HB4.out⟩

end Go.Proofs.Ytamljoffmkcbnaa
