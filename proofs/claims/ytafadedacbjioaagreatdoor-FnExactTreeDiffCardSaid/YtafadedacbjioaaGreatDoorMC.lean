/- The pointers below a pointer: both texts' walks. -/
import Derived.Test.YtafadedacbjioaaGreatDoorMB
import Derived.Lib.SliceRun
import Derived.Test.YtafadedacbjioaaGreatDoorCards
import Derived.Test.YtafadedacbjioaaGreatDoorTie
import Derived.Deep.DeepHandedRow
import Derived.Lay
import Derived.SevenTiedAt
import Derived.Stop.LaidErr
import Derived.Stop.ErrReads
namespace Go.Proofs.YtafadedacbjioaaGreatDoor
open Go.RowKit Go.Sort
set_option maxRecDepth 100000
set_option linter.unusedVariables false
set_option linter.unusedSimpArgs false

theorem own_lowerP {base base' : Nat} {w : World} {v : Value} {xs : List Pt} (h : Own encP 5 40 base w v xs) (hb : base' ≤ base) : Own encP 5 40 base' w v xs := own_lowerF h hb
theorem readT_size {rows : List ByteArray} {p : Pt} (hp : ptrB p = true) : (readT rows p).size ≤ 128 := by
  unfold readT
  split
  · exact Nat.zero_le _
  · next hh =>
    split
    · next hf =>
      simp only [fitsB, Bool.and_eq_true, beq_iff_eq] at hf
      have hh' : holeB p = false := by simpa using hh
      simp only [ptrB, hh', Bool.false_or, Bool.and_eq_true] at hp
      have := inB_true hp.2.2.1
      omega
    · exact Nat.zero_le _
set_option maxHeartbeats 4000000 in
theorem fanGet_any (w : World) (s : ByteArray) (hM : MaxAt w) (hT : TenAt w) (hE : ErrAt w) (hs : s.size ≤ 1048576) : Calls Tryz.prog 84 #[.string s] w (GetF w s) := by
  have LB := Lib.hid (And.intro hM (And.intro hT hE))
  have HS := Lib.hid (splitComma_any w s hM hs)
  have HX := Lib.hid (cutB_len 44 s)
  have GB := Lib.hid (fun k t p (ht : (cutB 44 s)[k]? = some t) hp => fanG_bad (s := s) (k := k) (t := t) (p := p) ht hp)
  have GL := Lib.hid (fun h => fanG_len (s := s) h)
  have GH := Lib.hid (fun l h hh => fanG_holes (s := s) (l := l) h hh)
  have GY := Lib.hid (fun l h h4 hh => fanG_yes (s := s) (l := l) h h4 hh)
  have GJ := Lib.hid (fun l h h4 => (show fanT l = s from fan_join (s := s) (l := l) h h4))
  generalize cutB 44 s = xs at *
  clear hM hT hE
  go_enter Tryz.func84, Tryz.ntmps84
  go_wp2_with fail
  refine Calls.mono HS.out ?_
  rintro e w2 ⟨v2, rfl, own2, hB⟩
  obtain ⟨A, c, rfl, hc, hcm, hA, hrd⟩ := own2.form
  have R2 := Lib.hid hrd
  have HB2 := Lib.hid hB
  clear hA hrd own2 hB HS
  go_wp2_with fail
  go_loopw [4, 14] (fun v y wr => ∃ (k : Nat) (l : List Pt), k ≤ xs.length ∧ k ≤ 4 ∧ y = .int .i64 k ∧ Hid (FGRel w2 xs k l v wr)) (fun v y _ => xs.length - (intOf y).toNat)
  case atStart => exact ⟨0, [], Nat.zero_le _, by omega, rfl, Lib.hid ⟨Own.nil, Below.refl _ _, fanAt_nil xs⟩⟩
  case round =>
    obtain ⟨k, l, hk, hk4, rfl, HG⟩ := hrel
    have HO := Lib.hid HG.out.1
    have HB12 := Lib.hid HG.out.2.1
    have HF := Lib.hid HG.out.2.2
    have HBw := Lib.hid (below_below HB2.out HB12.out)
    clear HG
    have hll := HF.out.1
    obtain ⟨A4, c4, rfl, q1, q2, q3, hr⟩ := HO.out.form
    have HR4 := Lib.hid hr
    rw [hll] at HO q1
    by_cases hlt : k < xs.length
    · obtain ⟨b, off, t, rfl, hb, ht, ct⟩ := (R2.out.below HB12.out).strs (k := k) hlt
      have HP := Lib.hid (ptrGet_any wr t (LB.out.1.below HBw.out) (LB.out.2.1.below HBw.out) (LB.out.2.2.below HBw.out) (by have := HX.out.2 t (List.mem_of_getElem? ht); omega))
      have HTT := Lib.hid ht
      have k2 : IntKind.i64.wrap ((k : Int) + 1) = (k : Int) + 1 := IntWalk.i64_in _ (by omega)
      have K1 := Lib.hid (And.intro (show (l.length + 1) * 40 ≤ 140737488355328 by omega) (show l.length + 1 ≤ maxLen by unfold maxLen; omega))
      have HLX := Lib.hid hlt
      rw [hll]
      clear ht hll q3 hr HR4
      generalize xs.length = n at *
      go_wp2_with fail
      refine Calls.mono HP.out ?_
      rintro e w5 ⟨p, bp, rfl, hG, hB⟩
      have HPG := Lib.hid hG
      have HB15 := Lib.hid (below_below HB12.out hB)
      have HB5 := Lib.hid (below_below HBw.out hB)
      have HO5 := Lib.hid (HO.out.below hB)
      clear hG hB HP ct HO HB12 HBw
      cases bp
      · have HE := Lib.hid (GB.out k t p HTT.out HPG.out)
        obtain ⟨pa, pb, ps, pu, pl⟩ := p
        unfold Pt.v
        dsimp only
        clear HPG GL GH GY
        go_wp2_with fail
        go_ret2
        exact ⟨_, [], false, rfl, HE.out, Own.nil, below_alloc HB5.out _⟩
      · by_cases h4 : k = 4
        · have HE := Lib.hid (GL.out (by have := HLX.out; omega))
          subst h4
          obtain ⟨pa, pb, ps, pu, pl⟩ := p
          unfold Pt.v
          dsimp only
          clear HPG GL GH GY HTT GB HLX k2
          go_wp2_with fail
          go_ret2
          exact ⟨_, [], false, rfl, HE.out, Own.nil, below_alloc HB5.out _⟩
        · have HFN := Lib.hid (fanAt_next HF.out HTT.out HPG.out)
          have e4 : ((k : Int) == 4) = false := by simp; omega
          obtain ⟨pa, pb, ps, pu, pl⟩ := p
          unfold Pt.v
          dsimp only
          have HB16 := Lib.hid (below_alloc HB15.out (.cells #[.int .i64 pa, .int .i64 pb, .int .i64 ps, .int .i64 pu, .int .i64 pl] 40))
          have HO6 := Lib.hid (own_allocPF HO5.out (.cells #[.int .i64 pa, .int .i64 pb, .int .i64 ps, .int .i64 pu, .int .i64 pl] 40))
          clear HPG HTT GL GH GY GB HLX HF HO5 HB15
          go_wp2_with (at_builtin; refine wpList_app (ys := ([⟨pa, pb, ps, pu, pl⟩] : List Pt)) elP rfl _ _ rfl (by rfl) (own_allocPF HO6.out _) (by rfl) rfl (rd_onePAt (by simp)) oneP K1.out.1 K1.out.2 (below_alloc HB16.out _).size ?_; intro v1 w4 ownv1 grv1 atv1)
          refine ⟨⟨k + 1, l ++ [⟨pa, pb, ps, pu, pl⟩], by omega, by omega, by go_num, Lib.hid ⟨ownv1, below_grown (below_alloc HB16.out _) (own_allocPF HO6.out _) grv1, HFN.out⟩⟩, by simp [intOf]; omega⟩
    · obtain rfl : k = xs.length := by omega
      have HPUT := Lib.hid (fanPut_any wr A4 c4 l (LB.out.2.1.below HBw.out) HR4.out (by omega) q2 (by omega) HF.out.2.1)
      rw [hll] at HPUT
      rw [hll]
      by_cases h4 : l.length = 4
      · cases hsb : someB l
        · have HE := Lib.hid (GH.out l HF.out (someB_no hsb))
          rw [hsb, Bool.and_false] at HPUT
          clear GB GL GH GY GJ h4 hll hr HR4 HO HF HX
          generalize xs.length = n at *
          go_wp2_with fail
          refine Calls.mono HPUT.out ?_
          rintro e w5 ⟨rfl, hB⟩
          have HB5 := Lib.hid (below_below HBw.out hB)
          clear hB
          go_wp2_with fail
          go_ret2
          exact ⟨_, [], false, rfl, HE.out, Own.nil, HB5.out⟩
        · have HE := Lib.hid (GY.out l HF.out h4 (someB_yes hsb))
          have e1 : (xs.length == 4) = true := by rw [← hll]; simp [h4]
          have e2 := GJ.out l HF.out h4
          rw [hsb, Bool.and_true, e1, if_pos rfl, e2] at HPUT
          have hq : (s.toList == s.toList) = true := by simp
          have hq2 : (s.toList != s.toList) = false := by simp
          clear GB GL GH GY GJ h4 hll hr HR4 HF HX e1 e2 hsb
          generalize xs.length = n at *
          go_wp2_with fail
          refine Calls.mono HPUT.out ?_
          rintro e w5 ⟨rfl, hB⟩
          have HB5 := Lib.hid (below_below HBw.out hB)
          have HO5 := Lib.hid (HO.out.below hB)
          clear hB
          go_wp2_with fail
          go_ret2
          exact ⟨_, l, true, rfl, HE.out, own_lowerP HO5.out HB2.out.size, HB5.out⟩
      · have HE := Lib.hid (GL.out (by rw [← hll]; exact h4))
        have e1 : (xs.length == 4) = false := by rw [← hll]; simp [h4]
        rw [e1, Bool.false_and] at HPUT
        clear GB GL GH GY GJ h4 hll hr HR4 HO HF HX e1
        generalize xs.length = n at *
        go_wp2_with fail
        refine Calls.mono HPUT.out ?_
        rintro e w5 ⟨rfl, hB⟩
        have HB5 := Lib.hid (below_below HBw.out hB)
        clear hB
        go_wp2_with fail
        go_ret2
        exact ⟨_, [], false, rfl, HE.out, Own.nil, HB5.out⟩
set_option maxHeartbeats 2000000 in
theorem holes_any (n : Nat) (w : World) (hn : n ≤ 16) : Calls Tryz.prog 81 #[.int .i64 n] w fun e w' => ∃ v, e = .returned v ∧ Own encP 5 40 w.heap.size w' v (List.replicate n hole) ∧ Below w.heap.size w w' := by
  obtain ⟨i0, hi, hz0, hz1, hz2⟩ := info_parts info_ptr
  go_enter Tryz.func81, Tryz.ntmps81
  go_wp2_with (at_make; refine wpList_make_full _ rfl _ _ 36 rfl w.heap.size 40 i0 _ 5 Tryz.underlying36 hi hz0 hz1 .i64 .i64 _ _ n rfl rfl rfl rfl (by rw [hz2]; omega) (by unfold maxLen; omega) (Nat.le_refl _) ?_; intro w1 hown hgrow)
  have hB1 : Below w.heap.size w w1 := (Below.refl _ _).grown hgrow (Nat.le_refl _) (fun k hk => by cases hk)
  rw [madeP] at hown
  go_ret
  refine ⟨_, rfl, ?_, hB1⟩
  unfold Own
  rw [List.length_replicate]
  exact hown
def BelP (w : World) (rows : List ByteArray) (top lv : Int) (p : Pt) (e : Ending) (w' : World) : Prop := ∃ (v : Value) (l : List Pt) (b : Bool), e = .returned (.tuple #[v, .bool b]) ∧ BelG rows top lv p l b ∧ (b = true → Own encP 5 40 w.heap.size w' v l) ∧ Below w.heap.size w w'
def byB (t : Int) (p : Pt) : Bool := decide (t < p.birth)
theorem byB_no {t : Int} {l : List Pt} (h : l.any (byB t) = false) : ∀ k ∈ l, k.birth ≤ t := fun k hk => by
  have := List.any_eq_false.1 h k hk
  simp [byB] at this
  exact this
theorem byB_yes {t : Int} {l : List Pt} (h : l.any (byB t) = true) : ¬ ∀ k ∈ l, k.birth ≤ t := fun hh => by
  obtain ⟨p, hp, h⟩ := List.any_eq_true.1 h
  have := hh p hp
  simp [byB] at h
  omega
theorem birthC_any (k : Pt) (w : World) (pb : Nat) (p : Pt) (hB : BoxAt w pb #[.int .i64 p.at_, .int .i64 p.birth, .int .i64 p.size, .int .i64 p.sum, .int .i64 p.level] 40) : Calls Tryz.prog 86 #[k.v, .pointer (some ⟨pb, 0, none⟩)] w fun e w' => e = .returned (.bool (byB p.birth k)) ∧ Below w.heap.size w w' := by
  have bx := hB.cell
  have hl := hB.lt
  obtain ⟨a, b, c, d, e⟩ := k
  unfold Pt.v byB
  dsimp only
  have HBa := Lib.hid (below_alloc (Below.refl w.heap.size w) (.cells #[.int .i64 a, .int .i64 b, .int .i64 c, .int .i64 d, .int .i64 e] 40))
  clear hB
  go_enter Tryz.func86, Tryz.ntmps86
  go_wp2_with fail
  go_ret
  exact ⟨ret_bool (by simp), HBa.out⟩

set_option maxHeartbeats 2000000 in
theorem idxB_any (w : World) (A : Option Addr) (cap : Nat) (xs : List Pt) (pb : Nat) (p0 : Pt) (h : RdT encP 5 w A xs) (hc : xs.length ≤ cap) (hm : cap ≤ 9223372036854775807) (hn : xs.length ≤ 1048576) (hbx : BoxAt w pb #[.int .i64 p0.at_, .int .i64 p0.birth, .int .i64 p0.size, .int .i64 p0.sum, .int .i64 p0.level] 40) :
    Calls Tryz.prog 96 #[.slice A xs.length cap, .func (.func 86) #[] #[.pointer (some ⟨pb, 0, none⟩)]] w (PlaceP w (xs.any (byB p0.birth))) := by
  have HR := Lib.hid h
  have HBX := Lib.hid hbx
  clear hbx
  clear h
  go_enter Tryz.func96, Tryz.ntmps96
  go_wp2_with fail
  go_loopw [8] (fun i wr => ∃ k : Nat, k ≤ xs.length ∧ i = .int .i64 k ∧ Hid (∀ x ∈ xs.take k, (byB p0.birth) x = false) ∧ Hid (Below w.heap.size w wr)) (fun i _ => xs.length - (intOf i).toNat)
  case atStart => exact ⟨0, Nat.zero_le _, rfl, Lib.hid (fun x hx => by simp at hx), Lib.hid (Below.refl _ _)⟩
  case round =>
    obtain ⟨k, hk, rfl, HN, HB⟩ := hrel
    by_cases hlt : k < xs.length
    · obtain ⟨b, off, p, rfl, hb, he, c0, c1, c2, c3, c4⟩ := (HR.out.below HB.out).ptr hlt
      have k2 : IntKind.i64.wrap ((k : Int) + 1) = (k : Int) + 1 := IntWalk.i64_in _ (by omega)
      have HC := Lib.hid (birthC_any p wr pb p0 (HBX.out.below HB.out))
      obtain ⟨pa, pb, ps, pu, pl⟩ := p
      unfold Pt.v at HC
      dsimp only at HC c0 c1 c2 c3 c4
      cases hx : (byB p0.birth) ⟨pa, pb, ps, pu, pl⟩
      · have HN2 := Lib.hid (show ∀ x ∈ xs.take (k + 1), (byB p0.birth) x = false by
          rw [List.take_add_one, he]
          intro y hy
          rcases List.mem_append.1 hy with hy | hy
          · exact HN.out y hy
          · simp at hy; rw [hy]; exact hx)
        rw [hx] at HC
        clear he hx
        go_wp2_with fail
        refine Calls.mono HC.out ?_
        rintro e w1 ⟨rfl, hB⟩
        have HB2 := Lib.hid (below_below HB.out hB)
        clear hB
        go_wp2_with fail
        exact ⟨⟨k + 1, by omega, by go_num, HN2, HB2⟩, by simp [intOf]; omega⟩
      · have HA := Lib.hid (show xs.any (byB p0.birth) = true from List.any_eq_true.2 ⟨_, List.mem_of_getElem? he, hx⟩)
        rw [hx] at HC
        clear he hx
        go_wp2_with fail
        refine Calls.mono HC.out ?_
        rintro e w1 ⟨rfl, hB⟩
        have HB2 := Lib.hid (below_below HB.out hB)
        clear hB
        go_wp2_with fail
        go_ret
        refine (?_ : PlaceP w (xs.any (byB p0.birth)) _ _)
        rw [HA.out]
        exact ⟨k, rfl, by simp, by omega, HB2.out⟩
    · obtain rfl : k = xs.length := by omega
      have HA := Lib.hid (show xs.any (byB p0.birth) = false by
        rw [List.any_eq_false]
        intro x hx
        have := HN.out x (by rw [List.take_length]; exact hx)
        rw [this]; simp)
      go_wp2_with fail
      go_ret
      refine (?_ : PlaceP w (xs.any (byB p0.birth)) _ _)
      rw [HA.out]
      exact ⟨-1, rfl, by decide, by omega, HB.out⟩
theorem contB_any (w : World) (A : Option Addr) (cap : Nat) (xs : List Pt) (pb : Nat) (p0 : Pt) (h : RdT encP 5 w A xs) (hc : xs.length ≤ cap) (hm : cap ≤ 9223372036854775807) (hn : xs.length ≤ 1048576) (hbx : BoxAt w pb #[.int .i64 p0.at_, .int .i64 p0.birth, .int .i64 p0.size, .int .i64 p0.sum, .int .i64 p0.level] 40) :
    Calls Tryz.prog 85 #[.slice A xs.length cap, .func (.func 86) #[] #[.pointer (some ⟨pb, 0, none⟩)]] w fun e w' => e = .returned (.bool (xs.any (byB p0.birth))) ∧ Below w.heap.size w w' := by
  have HI := Lib.hid (idxB_any w A cap xs pb p0 h hc hm hn hbx)
  clear h
  go_enter Tryz.func85, Tryz.ntmps85
  go_wp2_with fail
  refine Calls.mono HI.out ?_
  rintro e w1 ⟨z, rfl, hz, h1, hB⟩
  have HB := Lib.hid hB
  have HZ := Lib.hid hz
  clear hB hz
  go_wp2_with fail
  go_ret
  exact ⟨ret_bool HZ.out, HB.out⟩
set_option maxHeartbeats 4000000 in
theorem fanOf_any (w : World) (sb : Nat) (R : Option Addr) (nR cR : Nat) (v1 v2 v3 v4 v5 v6 v7 : Value) (rows : List ByteArray) (p : Pt) (top lv : Int) (hB : BoxAt w sb #[.slice R nR cR, v1, v2, v3, v4, v5, v6, v7] 38) (h : RdT encS 1 w R rows) (hl : rows.length = nR) (h64 : nR = 64) (hz : ∀ x ∈ rows, x.size ≤ 9223372036854775807) (hp : ptrB p = true) (hbt : p.birth ≤ top) (hM : MaxAt w) (hT : TenAt w) (hE : ErrAt w) :
    Calls Tryz.prog 71 #[.pointer (some ⟨sb, 0, none⟩), p.v, .int .i64 lv] w (BelP w rows top lv p) := by
  have LB := Lib.hid (And.intro hM (And.intro hT hE))
  have HRD := Lib.hid (fun W (hW : Below w.heap.size w W) => read_any W sb R nR cR v1 v2 v3 v4 v5 v6 v7 rows p (hB.below hW) (h.below hW) hl h64 hz hp)
  have HPH := Lib.hid (fun W => ptrHole_any p W)
  have HFG := Lib.hid (fun W (hW : Below w.heap.size w W) => fanGet_any W (readT rows p) (hM.below hW) (hT.below hW) (hE.below hW) (by have := readT_size (rows := rows) hp; omega))
  have HNO := Lib.hid (fun (hh : holeB p = false) hn => (show BelG rows top lv p [] false from .inr (.inr ⟨hh, rfl, rfl, hn⟩)))
  have HYE := Lib.hid (fun l (hh : holeB p = false) h1 h2 h3 h4 => (show BelG rows top lv p l true from .inr (.inl ⟨hh, rfl, h1, h2, hbt, h3, h4⟩)))
  have HHO := Lib.hid (fun (hh : holeB p = true) => (show BelG rows top lv p holes4 true from .inl ⟨hh, rfl, rfl⟩))
  have BX := Lib.hid (box_new w #[.int .i64 p.at_, .int .i64 p.birth, .int .i64 p.size, .int .i64 p.sum, .int .i64 p.level] 40)
  have HBa := Lib.hid (below_alloc (Below.refl w.heap.size w) (.cells #[.int .i64 p.at_, .int .i64 p.birth, .int .i64 p.size, .int .i64 p.sum, .int .i64 p.level] 40))
  have HPV := Lib.hid (show p.v = .agg #[.int .i64 p.at_, .int .i64 p.birth, .int .i64 p.size, .int .i64 p.sum, .int .i64 p.level] from rfl)
  rw [HPV.out] at HPH HRD
  rw [HPV.out]
  clear hB h hl h64 hz hM hT hE HPV hbt
  cases hh : holeB p
  · replace HNO := Lib.hid (HNO.out hh)
    replace HYE := Lib.hid (fun l => HYE.out l hh)
    rw [hh] at HPH
    clear HHO hh
    go_enter Tryz.func71, Tryz.ntmps71
    go_wp2_with fail
    refine Calls.mono (HPH.out _) ?_
    rintro e w1 ⟨rfl, hB⟩
    have HB1 := Lib.hid (below_below HBa.out hB)
    have BX1 := Lib.hid (BX.out.below hB)
    have bx1 := BX1.out.cell
    have hl1 := BX1.out.lt
    clear hB BX HBa HPH
    go_wp2_with fail
    refine Calls.mono (HRD.out _ HB1.out) ?_
    rintro e w2 ⟨rfl, hB⟩
    have HB2 := Lib.hid (below_below HB1.out hB)
    have BX2 := Lib.hid (BX1.out.below hB)
    have bx2 := BX2.out.cell
    have hl2 := BX2.out.lt
    clear hB bx1 hl1 BX1 HB1 HRD
    cases hr : readB rows p
    · have HE := Lib.hid (HNO.out (by rw [hr]; simp))
      clear HNO HYE
      go_wp2_with fail
      go_ret2
      exact ⟨_, [], false, rfl, HE.out, fun h => absurd h (by decide), HB2.out⟩
    by_cases hlv : p.level = lv
    · have e1 : (p.level == lv) = true := by simp [hlv]
      have e2 : (p.level != lv) = false := by simp [hlv]
      replace HNO := Lib.hid (fun (hn : ∀ m, FanOk (readT rows p) m → (∀ k ∈ m, k.birth ≤ p.birth) → False) => HNO.out (fun ⟨_, _, _, m, hm⟩ => hn m hm.1 hm.2))
      replace HYE := Lib.hid (fun l => HYE.out l hr hlv)
      clear hr hlv
      go_wp2_with fail
      refine Calls.mono (HFG.out _ HB2.out) ?_
      rintro e w3 ⟨v, l, b, rfl, hG, hO, hB⟩
      have HG := Lib.hid hG
      have HO := Lib.hid hO
      have HB3 := Lib.hid (below_below HB2.out hB)
      have BX3 := Lib.hid (BX2.out.below hB)
      have bx3 := BX3.out.cell
      have hl3 := BX3.out.lt
      clear hG hO hB bx2 hl2 BX2 HFG
      cases b
      · have HE := Lib.hid (HNO.out (fun m hm _ => by rcases HG.out with ⟨h, _⟩ | ⟨_, _, h⟩; (cases h); exact h m hm))
        clear HNO HYE
        go_wp2_with fail
        go_ret2
        exact ⟨_, [], false, rfl, HE.out, fun h => absurd h (by decide), HB3.out⟩
      · obtain ⟨A, c, rfl, hc, hcm, _, hrd⟩ := HO.out.form
        have HFO := Lib.hid (show FanOk (readT rows p) l from by rcases HG.out with ⟨_, h⟩ | ⟨h, _⟩; exact h; cases h)
        have h4 := HFO.out.1
        have HC := Lib.hid (contB_any w3 A c l w.heap.size p hrd hc hcm (by omega) BX3.out)
        rw [h4] at HC HO
        rw [h4]
        clear h4 hrd hc
        cases ha : l.any (byB p.birth)
        · have HE := Lib.hid (HYE.out l HFO.out (byB_no ha))
          rw [ha] at HC
          clear ha HNO HYE HFO HG
          go_wp2_with fail
          refine Calls.mono HC.out ?_
          rintro e w4 ⟨rfl, hB⟩
          have HB4 := Lib.hid (below_below HB3.out hB)
          have HO4 := Lib.hid (HO.out.below hB)
          clear hB HO HC
          go_wp2_with fail
          go_ret2
          exact ⟨_, l, true, rfl, HE.out, fun _ => own_lowerP HO4.out HB2.out.size, HB4.out⟩
        · have HE := Lib.hid (HNO.out (fun m hm hh => by rw [fanOk_one hm HFO.out] at hh; exact byB_yes ha hh))
          rw [ha] at HC
          clear ha HNO HYE HFO HG
          go_wp2_with fail
          refine Calls.mono HC.out ?_
          rintro e w4 ⟨rfl, hB⟩
          have HB4 := Lib.hid (below_below HB3.out hB)
          clear hB HO HC
          go_wp2_with fail
          go_ret2
          exact ⟨_, [], false, rfl, HE.out, fun h => absurd h (by decide), HB4.out⟩
    · have e1 : (p.level == lv) = false := by simp [hlv]
      have e2 : (p.level != lv) = true := by simp [hlv]
      have HE := Lib.hid (HNO.out (fun h => hlv h.2.1))
      clear HNO HYE hr hlv
      go_wp2_with fail
      go_ret2
      exact ⟨_, [], false, rfl, HE.out, fun h => absurd h (by decide), HB2.out⟩
  · replace HHO := Lib.hid (HHO.out hh)
    rw [hh] at HPH
    clear HNO HYE hh HRD HFG
    obtain ⟨i0, hi, hz0, hz1, hz2⟩ := info_parts info_ptr
    go_enter Tryz.func71, Tryz.ntmps71
    go_wp2_with fail
    refine Calls.mono (HPH.out _) ?_
    rintro e w1 ⟨rfl, hB⟩
    have HB1 := Lib.hid (below_below HBa.out hB)
    clear hB BX HBa HPH
    go_wp2_with (at_make; refine wpList_make_full _ rfl _ _ 36 rfl w1.heap.size 40 i0 _ 5 Tryz.underlying36 hi hz0 hz1 .i64 .i64 _ _ 4 rfl rfl rfl rfl (by rw [hz2]; omega) (by unfold maxLen; omega) (Nat.le_refl _) ?_; intro w2 hown hgrow)
    have hB2 : Below w1.heap.size w1 w2 := (Below.refl _ _).grown hgrow (Nat.le_refl _) (fun k hk => by cases hk)
    rw [madeP] at hown
    have HB2 := Lib.hid (below_below HB1.out hB2)
    have HO2 := Lib.hid (show Own encP 5 40 w1.heap.size w2 (.slice (some ⟨w1.heap.size, 0, none⟩) 4 4) holes4 from hown)
    clear hown hgrow hB2
    go_wp2_with fail
    go_ret2
    exact ⟨_, holes4, true, rfl, HHO.out, fun _ => own_lowerP HO2.out HB1.out.size, HB2.out⟩
set_option maxHeartbeats 4000000 in
theorem l8Below_any (w : World) (R : Option Addr) (nR cR : Nat) (A B G D : Option Addr) (nA cA nB cB nG cG nD cD : Nat) (t k : Int) (sm : Bool) (rows : List ByteArray) (p : Pt) (lv : Int) (h : RdT encS 1 w R rows) (hl : rows.length = nR) (h64 : nR = 64) (hz : ∀ x ∈ rows, x.size ≤ 9223372036854775807) (hp : ptrB p = true) :
    Calls Tryz.prog 65 #[.agg #[.slice R nR cR, .slice A nA cA, .slice B nB cB, .int .i64 t, .slice G nG cG, .int .i64 k, .slice D nD cD, .bool sm], p.v, .int .i64 lv] w (BelP w rows t lv p) := by
  have HRD := Lib.hid (fun W (hW : Below w.heap.size w W) => l7Read_any W R nR cR A B G D nA cA nB cB nG cG nD cD t k sm rows p (h.below hW) hl h64 hz hp)
  have HPH := Lib.hid (fun W => specPtrHole_any p W)
  have HPO := Lib.hid (fun W => specPtrOk_any p W)
  rw [hp] at HPO
  have HFG := Lib.hid (fun W => specFanGet_any W (readT rows p) (by have := readT_size (rows := rows) hp; omega))
  have HL8 := Lib.hid (fun W => (show Calls Tryz.prog 81 #[.int .i64 4] W (fun e w' => ∃ v, e = .returned v ∧ Own encP 5 40 W.heap.size w' v holes4 ∧ Below W.heap.size W w') from holes_any 4 W (by omega)))
  have HNO := Lib.hid (fun (hh : holeB p = false) hn => (show BelG rows t lv p [] false from .inr (.inr ⟨hh, rfl, rfl, hn⟩)))
  have HYE := Lib.hid (fun l (hh : holeB p = false) h1 h2 h5 h3 h4 => (show BelG rows t lv p l true from .inr (.inl ⟨hh, rfl, h1, h2, h5, h3, h4⟩)))
  have HHO := Lib.hid (fun (hh : holeB p = true) => (show BelG rows t lv p holes4 true from .inl ⟨hh, rfl, rfl⟩))
  have BS := Lib.hid ((box_new w #[.slice R nR cR, .slice A nA cA, .slice B nB cB, .int .i64 t, .slice G nG cG, .int .i64 k, .slice D nD cD, .bool sm] 38).alloc (.cells #[.int .i64 p.at_, .int .i64 p.birth, .int .i64 p.size, .int .i64 p.sum, .int .i64 p.level] 40))
  have BX := box_new (w.alloc (.cells #[.slice R nR cR, .slice A nA cA, .slice B nB cB, .int .i64 t, .slice G nG cG, .int .i64 k, .slice D nD cD, .bool sm] 38)) #[.int .i64 p.at_, .int .i64 p.birth, .int .i64 p.size, .int .i64 p.sum, .int .i64 p.level] 40
  rw [World.size_alloc] at BX
  replace BX := Lib.hid BX
  have HBa := Lib.hid (below_alloc (below_alloc (Below.refl w.heap.size w) (.cells #[.slice R nR cR, .slice A nA cA, .slice B nB cB, .int .i64 t, .slice G nG cG, .int .i64 k, .slice D nD cD, .bool sm] 38)) (.cells #[.int .i64 p.at_, .int .i64 p.birth, .int .i64 p.size, .int .i64 p.sum, .int .i64 p.level] 40))
  have HPV := Lib.hid (show p.v = .agg #[.int .i64 p.at_, .int .i64 p.birth, .int .i64 p.size, .int .i64 p.sum, .int .i64 p.level] from rfl)
  rw [HPV.out] at HPH HRD HPO
  rw [HPV.out]
  clear h hl h64 hz HPV
  cases hh : holeB p
  · replace HNO := Lib.hid (HNO.out hh)
    replace HYE := Lib.hid (fun l => HYE.out l hh)
    rw [hh] at HPH
    clear HHO hh HL8
    go_enter Tryz.func65, Tryz.ntmps65
    go_wp2_with fail
    refine Calls.mono (HPH.out _) ?_
    rintro e w1 ⟨rfl, hB⟩
    have HB1 := Lib.hid (below_below HBa.out hB)
    have BX1 := Lib.hid (BX.out.below hB)
    have BS1 := Lib.hid (BS.out.below hB)
    have bx1 := BX1.out.cell
    have hl1 := BX1.out.lt
    clear hB BX HBa HPH BS
    go_wp2_with fail
    refine Calls.mono (HPO.out _) ?_
    rintro e w2 ⟨rfl, hB⟩
    have HB2 := Lib.hid (below_below HB1.out hB)
    have BX2 := Lib.hid (BX1.out.below hB)
    have BS2 := Lib.hid (BS1.out.below hB)
    have bx2 := BX2.out.cell
    have hl2 := BX2.out.lt
    have bs2 := BS2.out.cell
    have hm2 := BS2.out.lt
    clear hB bx1 hl1 BX1 BS1 HB1 HPO
    by_cases hlv : p.level = lv
    · have e1 : (p.level == lv) = true := by simp [hlv]
      have e2 : (p.level != lv) = false := by simp [hlv]
      by_cases htb : ¬ p.birth ≤ t
      · have ht : decide (t < p.birth) = true := decide_eq_true (by omega)
        have HE := Lib.hid (HNO.out (fun h => htb h.2.2.1))
        clear HNO HYE hlv htb
        go_wp2_with fail
        go_ret2
        exact ⟨_, [], false, rfl, HE.out, fun h => absurd h (by decide), below_alloc HB2.out _⟩
      replace htb : p.birth ≤ t := by omega
      have ht : decide (t < p.birth) = false := decide_eq_false (by omega)
      have HLV := Lib.hid (And.intro hlv htb)
      clear hlv htb
      go_wp2_with fail
      refine Calls.mono (HRD.out _ HB2.out) ?_
      rintro e w3 ⟨rfl, hB⟩
      have HB3 := Lib.hid (below_below HB2.out hB)
      have BX3 := Lib.hid (BX2.out.below hB)
      have bx3 := BX3.out.cell
      have hl3 := BX3.out.lt
      clear hB bx2 hl2 bs2 hm2 BX2 BS2 HRD
      cases hr : readB rows p
      · have HE := Lib.hid (HNO.out (by rw [hr]; simp))
        clear HNO HYE
        go_wp2_with fail
        go_ret2
        exact ⟨_, [], false, rfl, HE.out, fun h => absurd h (by decide), below_alloc HB3.out _⟩
      replace HNO := Lib.hid (fun (hn : ∀ m, FanOk (readT rows p) m → (∀ k ∈ m, k.birth ≤ p.birth) → False) => HNO.out (fun ⟨_, _, _, m, hm⟩ => hn m hm.1 hm.2))
      replace HYE := Lib.hid (fun l => HYE.out l hr HLV.out.1 HLV.out.2)
      clear hr HLV
      go_wp2_with fail
      refine Calls.mono (HFG.out _) ?_
      rintro e w4 ⟨v, l, b, rfl, hG, hO, hB⟩
      have HG := Lib.hid hG
      have HO := Lib.hid hO
      have HB4 := Lib.hid (below_below HB3.out hB)
      have BX4 := Lib.hid (BX3.out.below hB)
      clear hG hO hB bx3 hl3 BX3 HFG
      obtain ⟨A9, c9, rfl, hc, hcm, _, hrd⟩ := HO.out.form
      have HRL := Lib.hid hrd
      have hl4 : l.length ≤ 4 := by
        rcases HG.out with ⟨_, h⟩ | ⟨_, h, _⟩
        · exact Nat.le_of_eq h.1
        · rw [h]; simp
      clear hrd
      go_wp2_with fail
      go_loopw [12] (fun y wr => ∃ j : Nat, j ≤ l.length ∧ y = .int .i64 j ∧ Hid (∀ q ∈ l.take j, q.birth ≤ p.birth) ∧ Hid (Below w4.heap.size w4 wr)) (fun y _ => l.length - (intOf y).toNat)
      case atStart => exact ⟨0, Nat.zero_le _, rfl, Lib.hid (fun q hq => by simp at hq), Lib.hid (Below.refl _ _)⟩
      case round =>
        obtain ⟨j, hj, rfl, HQ, HBr⟩ := hrel
        have HBw := Lib.hid (below_below HB4.out HBr.out)
        by_cases hlt : j < l.length
        · obtain ⟨b9, o9, q, rfl, hb9, he, c0, c1, c2, c3, c4⟩ := (HRL.out.below HBr.out).ptr hlt
          have bx := (BX4.out.below HBr.out).cell 1
          have hlx := (BX4.out.below HBr.out).lt
          have k2 : IntKind.i64.wrap ((j : Int) + 1) = (j : Int) + 1 := IntWalk.i64_in _ (by omega)
          have bp : wr.cell? ⟨w.heap.size + 1, 1, none⟩ = some (.int .i64 p.birth) := bx
          by_cases hq : p.birth < q.birth
          · have hq2 : decide (p.birth < q.birth) = true := decide_eq_true hq
            cases b
            · rcases HG.out with ⟨h, _⟩ | ⟨_, h, _⟩
              · cases h
              · rw [h] at hlt; simp at hlt
            have HFO := Lib.hid (show FanOk (readT rows p) l from by rcases HG.out with ⟨_, h⟩ | ⟨h, _⟩; exact h; cases h)
            have HE := Lib.hid (HNO.out (fun m hm hh => by
              rw [fanOk_one hm HFO.out] at hh
              have := hh q (List.mem_of_getElem? he)
              omega))
            clear HFO HYE HNO HG he bx c0 c2 c3 c4 hq
            generalize l.length = n9 at *
            go_wp2_with fail
            refine wp_quiet_b (by kernel_rfl) (by kernel_rfl) (fun hgrow => ?_)
            repeat (go_big_quiet_step (fail))
            refine wpQuiet_nil ?_
            intro w6 hww6
            replace hww6 := below_of_regrown hww6
            clear hgrow
            have HB6 := Lib.hid (below_below HBw.out hww6)
            clear hww6
            go_wp2_with fail
            go_ret2
            exact ⟨_, [], false, rfl, HE.out, fun h => absurd h (by decide), below_alloc HB6.out _⟩
          · have hq2 : decide (p.birth < q.birth) = false := decide_eq_false hq
            have HQ2 := Lib.hid (show ∀ u ∈ l.take (j + 1), u.birth ≤ p.birth by
              rw [List.take_add_one, he]
              intro y hy
              rcases List.mem_append.1 hy with hy | hy
              · exact HQ.out y hy
              · simp at hy; rw [hy]; omega)
            clear HYE HNO HG he bx c0 c2 c3 c4 hq HO HQ
            generalize hn9 : l.length = n9 at *
            clear hn9
            go_wp2_with fail
            refine wp_quiet_b (by kernel_rfl) (by kernel_rfl) (fun hgrow => ?_)
            repeat (go_big_quiet_step (fail))
            refine wpQuiet_nil ?_
            intro w6 hww6
            replace hww6 := below_of_regrown hww6
            clear hgrow
            have HB6 := Lib.hid (below_below HBr.out hww6)
            clear hww6
            go_wp2_with fail
            exact ⟨⟨j + 1, by omega, by go_num, HQ2, HB6⟩, by simp [intOf]; omega⟩
        · obtain rfl : j = l.length := by omega
          have HQ2 := Lib.hid (show ∀ q ∈ l, q.birth ≤ p.birth from by have := HQ.out; rwa [List.take_length] at this)
          have HOr := Lib.hid (HO.out.below HBr.out)
          cases b
          · have HE := Lib.hid (HNO.out (fun m hm _ => by rcases HG.out with ⟨h, _⟩ | ⟨_, _, h⟩; (cases h); exact h m hm))
            clear HNO HYE HG HO HQ HQ2 HOr HRL hc
            generalize l.length = n9 at *
            go_wp2_with fail
            go_ret2
            exact ⟨_, [], false, rfl, HE.out, fun h => absurd h (by decide), HBw.out⟩
          · have HFO := Lib.hid (show FanOk (readT rows p) l from by rcases HG.out with ⟨_, h⟩ | ⟨h, _⟩; exact h; cases h)
            have HE := Lib.hid (HYE.out l HFO.out HQ2.out)
            clear HNO HYE HG HO HQ HQ2 HFO HRL
            generalize l.length = n9 at *
            go_wp2_with fail
            go_ret2
            exact ⟨_, l, true, rfl, HE.out, fun _ => own_lowerP HOr.out HB3.out.size, HBw.out⟩
    · have e1 : (p.level == lv) = false := by simp [hlv]
      have e2 : (p.level != lv) = true := by simp [hlv]
      have HE := Lib.hid (HNO.out (fun h => hlv h.2.1))
      clear HNO HYE hlv
      go_wp2_with fail
      go_ret2
      exact ⟨_, [], false, rfl, HE.out, fun h => absurd h (by decide), below_alloc HB2.out _⟩
  · replace HHO := Lib.hid (HHO.out hh)
    rw [hh] at HPH
    clear HNO HYE hh HRD HFG HPO
    go_enter Tryz.func65, Tryz.ntmps65
    go_wp2_with fail
    refine Calls.mono (HPH.out _) ?_
    rintro e w1 ⟨rfl, hB⟩
    have HB1 := Lib.hid (below_below HBa.out hB)
    clear hB BX BS HBa HPH
    go_wp2_with fail
    refine Calls.mono (HL8.out _) ?_
    rintro e w2 ⟨v, rfl, hO, hB⟩
    have HO := Lib.hid hO
    have HB2 := Lib.hid (below_below HB1.out hB)
    clear hO hB
    go_wp2_with fail
    go_ret2
    exact ⟨_, holes4, true, rfl, HHO.out, fun _ => own_lowerP HO.out HB1.out.size, HB2.out⟩

end Go.Proofs.YtafadedacbjioaaGreatDoor

/- The pointers of a tree's places: the walks down. -/
namespace Go.Proofs.YtafadedacbjioaaGreatDoor
open Go.RowKit Go.Sort
set_option maxRecDepth 100000
set_option linter.unusedVariables false
set_option linter.unusedSimpArgs false

theorem st8_cells {w : World} {b : Nat} {c0 c1 c2 c3 c4 c5 c6 c7 : Value} {T : TypeId} (h : BoxAt w b #[c0, c1, c2, c3, c4, c5, c6, c7] T) :
    w.cell? ⟨b, 0, none⟩ = some c0 ∧ w.cell? ⟨b, 1, none⟩ = some c1 ∧ w.cell? ⟨b, 2, none⟩ = some c2 ∧ w.cell? ⟨b, 3, none⟩ = some c3 ∧ w.cell? ⟨b, 4, none⟩ = some c4 ∧ w.cell? ⟨b, 5, none⟩ = some c5 ∧ w.cell? ⟨b, 6, none⟩ = some c6 ∧ w.cell? ⟨b, 7, none⟩ = some c7 :=
  ⟨h.cell 0, h.cell 1, h.cell 2, h.cell 3, h.cell 4, h.cell 5, h.cell 6, h.cell 7⟩
theorem row5_cells {w : World} {b off k : Nat} {xs : List Pt} {p : Pt} (h : RdT encP 5 w (some ⟨b, off, none⟩) xs) (he : xs[k]? = some p) :
    w.cell? ⟨b, off + k * 5, none⟩ = some (.int .i64 p.at_) ∧ w.cell? ⟨b, off + k * 5 + 1, none⟩ = some (.int .i64 p.birth) ∧ w.cell? ⟨b, off + k * 5 + 2, none⟩ = some (.int .i64 p.size) ∧ w.cell? ⟨b, off + k * 5 + 3, none⟩ = some (.int .i64 p.sum) ∧ w.cell? ⟨b, off + k * 5 + 4, none⟩ = some (.int .i64 p.level) := by
  have hk : k < xs.length := (List.getElem?_eq_some_iff.1 he).1
  obtain ⟨b', off', hA, hb, hc⟩ := h (by omega)
  cases hA
  exact ⟨hc k _ he 0 (by omega), hc k _ he 1 (by omega), hc k _ he 2 (by omega), hc k _ he 3 (by omega), hc k _ he 4 (by omega)⟩
theorem own_onePt (V : World) (base : Nat) (hb : base ≤ V.heap.size) (a b c d e : Int) : Own encP 5 40 base (V.alloc (.cells #[.int .i64 a, .int .i64 b, .int .i64 c, .int .i64 d, .int .i64 e] 40)) (.slice (some ⟨V.heap.size, 0, none⟩) 1 1) [(⟨a, b, c, d, e⟩ : Pt)] :=
  ⟨by simp [cellsOf], .inr ⟨V.heap.size, 1, #[.int .i64 a, .int .i64 b, .int .i64 c, .int .i64 d, .int .i64 e], rfl, hb, heap_alloc_new V _, Nat.le_refl _, by unfold maxLen; omega, by simp, by simp [cellsOf, encP, List.range_succ]⟩⟩
theorem own_onePtAt {V : World} {base k : Nat} (h : k = V.heap.size) (hb : base ≤ V.heap.size) {a b c d e : Int} : Own encP 5 40 base (V.alloc (.cells #[.int .i64 a, .int .i64 b, .int .i64 c, .int .i64 d, .int .i64 e] 40)) (.slice (some ⟨k, 0, none⟩) 1 1) [(⟨a, b, c, d, e⟩ : Pt)] := by
  subst h
  exact own_onePt V base hb a b c d e
def PtB (l : List Pt) : Prop := ∀ p ∈ l, ptrB p = true
theorem ptB_of {top : Int} {l : List Pt} (h : LsB top l) : PtB l := fun p hp => (h p hp).1
theorem ptB_app {l m : List Pt} (h : PtB l) (h' : PtB m) : PtB (l ++ m) := fun p hp => by
  rcases List.mem_append.1 hp with hp | hp
  · exact h p hp
  · exact h' p hp
/-- What a walk down has come to. -/
def LvP (w : World) (rows : List ByteArray) (d : Nat) (root : Pt) (top : Int) (e : Ending) (w' : World) : Prop := ∃ (v : Value) (l : List Pt) (b : Bool), e = .returned (.tuple #[v, .bool b]) ∧ (b = true → LvOk rows top d [root] l ∧ PtB l ∧ l.length ≤ 16 ∧ Own encP 5 40 w.heap.size w' v l) ∧ (b = false → ∀ out, ¬ LvOk rows top d [root] out) ∧ Below w.heap.size w w'
structure LRel (W1 : World) (rows : List ByteArray) (d : Nat) (root : Pt) (top : Int) (j : Nat) (xs : List Pt) (v : Value) (wr : World) : Prop where
  own : Own encP 5 40 W1.heap.size wr v xs
  ls : PtB xs
  len : xs.length * 4 ^ j ≤ 16
  iff : ∀ out, LvOk rows top d [root] out ↔ LvOk rows top j xs out
  bel : Below W1.heap.size W1 wr
structure IRel (W2 : World) (rows : List ByteArray) (lv : Int) (top : Int) (xs : List Pt) (k : Nat) (o : List Pt) (v : Value) (wr : World) : Prop where
  own : Own encP 5 40 W2.heap.size wr v o
  ls : PtB o
  len : o.length = 4 * k
  ex : ExpOk rows top lv (xs.take k) o
  bel : Below W2.heap.size W2 wr
set_option maxHeartbeats 8000000 in
theorem l8Leaves_any (w : World) (R : Option Addr) (nR cR : Nat) (A B G D : Option Addr) (nA cA nB cB nG cG nD cD : Nat) (t k : Int) (sm : Bool) (rows : List ByteArray) (root : Pt) (d : Nat) (m : Int) (h : RdT encS 1 w R rows) (hl : rows.length = nR) (h64 : nR = 64) (hz : ∀ x ∈ rows, x.size ≤ 9223372036854775807) (hp : ptrB root = true) (ht : 0 ≤ t) (hd : d ≤ 2) :
    Calls Tryz.prog 44 #[.agg #[.slice R nR cR, .slice A nA cA, .slice B nB cB, .int .i64 t, .slice G nG cG, .int .i64 k, .slice D nD cD, .bool sm], (Tr.mk root d m).v] w (LvP w rows d root t) := by
  have HBL := Lib.hid (fun W (hW : Below w.heap.size w W) p lv hp => l8Below_any W R nR cR A B G D nA cA nB cB nG cG nD cD t k sm rows p lv (h.below hW) hl h64 hz hp)
  have HI0 := Lib.hid (show PtB [root] from fun p hq => by simp at hq; rw [hq]; exact hp)
  have HT0 := Lib.hid ht
  have HTV := Lib.hid (show (Tr.mk root d m).v = .agg #[.int .i64 root.at_, .int .i64 root.birth, .int .i64 root.size, .int .i64 root.sum, .int .i64 root.level, .int .i64 (d : Int), .int .i64 m] from rfl)
  rw [HTV.out]
  clear h hl h64 hz hp ht HTV
  obtain ⟨ra, rb, rs, ru, rl⟩ := root
  dsimp only at *
  have BS := Lib.hid ((box_new w #[.slice R nR cR, .slice A nA cA, .slice B nB cB, .int .i64 t, .slice G nG cG, .int .i64 k, .slice D nD cD, .bool sm] 38).alloc (.cells #[.int .i64 ra, .int .i64 rb, .int .i64 rs, .int .i64 ru, .int .i64 rl, .int .i64 (d : Int), .int .i64 m] 42))
  have BT := box_new (w.alloc (.cells #[.slice R nR cR, .slice A nA cA, .slice B nB cB, .int .i64 t, .slice G nG cG, .int .i64 k, .slice D nD cD, .bool sm] 38)) #[.int .i64 ra, .int .i64 rb, .int .i64 rs, .int .i64 ru, .int .i64 rl, .int .i64 (d : Int), .int .i64 m] 42
  rw [World.size_alloc] at BT
  replace BT := Lib.hid BT
  have HBa := Lib.hid (below_alloc (below_alloc (Below.refl w.heap.size w) (.cells #[.slice R nR cR, .slice A nA cA, .slice B nB cB, .int .i64 t, .slice G nG cG, .int .i64 k, .slice D nD cD, .bool sm] 38)) (.cells #[.int .i64 ra, .int .i64 rb, .int .i64 rs, .int .i64 ru, .int .i64 rl, .int .i64 (d : Int), .int .i64 m] 42))
  go_enter Tryz.func44, Tryz.ntmps44
  go_wp2_with fail
  generalize hW1 : (w.alloc (.cells #[.slice R nR cR, .slice A nA cA, .slice B nB cB, .int .i64 t, .slice G nG cG, .int .i64 k, .slice D nD cD, .bool sm] 38)).alloc (.cells #[.int .i64 ra, .int .i64 rb, .int .i64 rs, .int .i64 ru, .int .i64 rl, .int .i64 (d : Int), .int .i64 m] 42) = W1 at *
  have hs1 : w.heap.size + 2 = W1.heap.size := by rw [← hW1]; simp
  clear hW1
  have HS1 := Lib.hid hs1
  clear hs1
  have bs := BS.out.cell
  have bt := BT.out.cell
  have hls := BS.out.lt
  have hlt := BT.out.lt
  --S1
  go_loopw [6, 7] (fun v y wr => ∃ (j : Nat) (xs : List Pt), j ≤ 2 ∧ y = .int .i64 j ∧ Hid (LRel W1 rows d ⟨ra, rb, rs, ru, rl⟩ t j xs v wr)) (fun v y _ => (intOf y).toNat)
  case atStart => exact ⟨d, _, hd, rfl, Lib.hid ⟨own_onePtAt (by have := HS1.out; omega) (Nat.le_refl _), HI0.out, by (rcases (show d = 0 ∨ d = 1 ∨ d = 2 by omega) with rfl | rfl | rfl <;> simp), fun out => Iff.rfl, below_alloc (Below.refl _ _) _⟩⟩
  case round =>
    obtain ⟨wz, rfl⟩ : ∃ wz, wz = wr := ⟨wr, rfl⟩
    obtain ⟨j, xs, hj, rfl, HL⟩ := hrel
    clear bs bt hls hlt
    rcases j with _ | j
    · have HO := Lib.hid (own_lowerP HL.out.own (by have := HS1.out; omega : w.heap.size ≤ W1.heap.size))
      have HE := Lib.hid (show LvOk rows t d [⟨ra, rb, rs, ru, rl⟩] xs from (HL.out.iff xs).2 rfl)
      have HLS := Lib.hid HL.out.ls
      have h16 : xs.length ≤ 16 := by have := HL.out.len; simpa using this
      have HBz := Lib.hid (below_below HBa.out HL.out.bel)
      clear HL
      go_wp2_with fail
      go_ret2
      exact ⟨_, xs, true, rfl, fun _ => ⟨HE.out, HLS.out, h16, HO.out⟩, fun h => absurd h (by decide), HBz.out⟩
    · have hlen : xs.length ≤ 16 := by
        have h1 := HL.out.len
        have h2 : 1 ≤ 4 ^ (j + 1) := Nat.one_le_pow _ _ (by decide)
        have h3 := Nat.le_mul_of_pos_right xs.length h2
        omega
      obtain ⟨A9, c9, rfl, q1, q2, _, hrd⟩ := HL.out.own.form
      have HRX := Lib.hid hrd
      have BSz := Lib.hid (BS.out.below HL.out.bel)
      have HBz := Lib.hid (below_below HBa.out HL.out.bel)
      have HB1 := Lib.hid HL.out.bel
      have HIF := Lib.hid HL.out.iff
      have HLS := Lib.hid HL.out.ls
      have HLN := Lib.hid HL.out.len
      have hcast : ((j + 1 : Nat) : Int) = (j : Int) + 1 := by omega
      rw [hcast]
      have hjp : (0 : Int) < (j : Int) + 1 := by omega
      have k1 : IntKind.i64.wrap ((j : Int) + 1 - 1) = (j : Int) := by rw [IntWalk.i64_in _ (by omega)]; omega
      have k0 : IntKind.i64.wrap (j : Int) = (j : Int) := IntWalk.i64_in _ (by omega)
      clear hcast
      clear hrd HL
      go_wp2_with fail
      --S2
      go_loopw [8, 9] (fun v y wr => ∃ (i9 : Nat) (o : List Pt), i9 ≤ xs.length ∧ y = .int .i64 i9 ∧ Hid (IRel wz rows ((j + 1 : Nat) : Int) t xs i9 o v wr)) (fun v y _ => xs.length - (intOf y).toNat)
      case atStart => exact ⟨0, [], Nat.zero_le _, rfl, Lib.hid ⟨Own.empty (Nat.le_refl _), fun p hp => by simp at hp, rfl, rfl, (Below.refl _ _).alloc (Nat.le_refl _) _⟩⟩
      case round =>
        obtain ⟨i9, o, hi9, rfl, HI⟩ := hrel
        by_cases hlt : i9 < xs.length
        · obtain ⟨b9, o9, p, rfl, hb9, he, _⟩ := (HRX.out.below HI.out.bel).ptr hlt
          have HE := Lib.hid he
          have hpb := HLS.out p (List.mem_of_getElem? he)
          have HBr := Lib.hid (below_below HBz.out HI.out.bel)
          have HCALL := Lib.hid (fun W (hW : Below wr.heap.size wr W) => HBL.out W (below_below HBr.out hW) p ((j + 1 : Nat) : Int) hpb)
          have HRr := Lib.hid (HRX.out.below HI.out.bel)
          have BSr := Lib.hid (BSz.out.below HI.out.bel)
          have k2 : IntKind.i64.wrap ((i9 : Int) + 1) = (i9 : Int) + 1 := IntWalk.i64_in _ (by omega)
          obtain ⟨pa, pb, ps, pu, pl⟩ := p
          unfold Pt.v at HCALL
          dsimp only at HCALL
          obtain ⟨c0, c1, c2, c3, c4⟩ := row5_cells HRr.out HE.out
          obtain ⟨s0, s1, s2, s3, s4, s5, s6, s7⟩ := st8_cells BSr.out
          have hb9r : b9 < wr.heap.size := hb9
          have hbsr := BSr.out.lt
          have HLX := Lib.hid hlt
          clear he hpb
          generalize hn9 : xs.length = n9 at *
          have HN9 := Lib.hid hn9
          clear hn9
          go_wp2_with fail
          --S3
          go_region_held3 (fun w' => (w'.cell? ⟨w.heap.size, 0, none⟩ = some (.slice R nR cR) ∧ w'.cell? ⟨w.heap.size, 1, none⟩ = some (.slice A nA cA) ∧ w'.cell? ⟨w.heap.size, 2, none⟩ = some (.slice B nB cB) ∧ w'.cell? ⟨w.heap.size, 3, none⟩ = some (.int .i64 t) ∧ w'.cell? ⟨w.heap.size, 4, none⟩ = some (.slice G nG cG) ∧ w'.cell? ⟨w.heap.size, 5, none⟩ = some (.int .i64 k) ∧ w'.cell? ⟨w.heap.size, 6, none⟩ = some (.slice D nD cD) ∧ w'.cell? ⟨w.heap.size, 7, none⟩ = some (.bool sm)) ∧ (w'.cell? ⟨b9, o9 + i9 * 5, none⟩ = some (.int .i64 pa) ∧ w'.cell? ⟨b9, o9 + i9 * 5 + 1, none⟩ = some (.int .i64 pb) ∧ w'.cell? ⟨b9, o9 + i9 * 5 + 2, none⟩ = some (.int .i64 ps) ∧ w'.cell? ⟨b9, o9 + i9 * 5 + 3, none⟩ = some (.int .i64 pu) ∧ w'.cell? ⟨b9, o9 + i9 * 5 + 4, none⟩ = some (.int .i64 pl))) (first | exact ⟨st8_cells (BSr.out.below (by (repeat (first | assumption | exact Below.refl _ _ | refine below_alloc ?_ _ | refine Below.drew ?_ | refine below_drewN ?_ _ | refine below_below ?_ (by assumption))))), row5_cells (HRr.out.below (by (repeat (first | assumption | exact Below.refl _ _ | refine below_alloc ?_ _ | refine Below.drew ?_ | refine below_drewN ?_ _ | refine below_below ?_ (by assumption))))) HE.out⟩)
            (first
              | (go_at_call 65; refine Calls.mono (HCALL.out _ (by (repeat (first | assumption | exact Below.refl _ _ | refine below_alloc ?_ _ | refine Below.drew ?_ | refine below_drewN ?_ _ | refine below_below ?_ (by assumption))))) ?_; rintro e w5 ⟨v5, l5, b5, rfl, hG5, hO5, hB5⟩; have HG5 := Lib.hid hG5; have HO5 := Lib.hid hO5; have HB5 := Lib.hid (show Below wr.heap.size wr w5 from by (refine below_below ?_ hB5; (repeat (first | assumption | exact Below.refl _ _ | refine below_alloc ?_ _ | refine Below.drew ?_ | refine below_drewN ?_ _ | refine below_below ?_ (by assumption))))); clear hG5 hO5))
          have HBw5 := Lib.hid (below_below HBr.out HB5.out)
          clear c0 c1 c2 c3 c4 s0 s1 s2 s3 s4 s5 s6 s7 hB5
          cases b5
          · have HNOT := Lib.hid (show ∀ out, ¬ LvOk rows t d [⟨ra, rb, rs, ru, rl⟩] out from fun out hh => lvOk_bad (List.mem_of_getElem? HE.out) HG5.out ((HIF.out out).1 hh))
            clear HG5 HO5
            go_wp2_with fail
            go_ret2
            exact ⟨_, [], false, rfl, fun h => absurd h (by decide), fun _ => HNOT.out, below_alloc HBw5.out _⟩
          · obtain ⟨A5, c5, rfl, hc5, hcm5, _, hr5⟩ := (HO5.out rfl).form
            have R5 := Lib.hid hr5
            have hl5 := belG_len HG5.out
            have hol := HI.out.len
            have K1 := Lib.hid (And.intro (show (o.length + l5.length) * 40 ≤ 140737488355328 by omega) (show o.length + l5.length ≤ maxLen by unfold maxLen; omega))
            have HOI := Lib.hid (HI.out.own.below HB5.out)
            have HBI := Lib.hid (below_below HI.out.bel HB5.out)
            have HEX := Lib.hid (expOk_take HI.out.ex HE.out HG5.out)
            have HLI := Lib.hid (ptB_app HI.out.ls (ptB_of (belG_B HT0.out HG5.out)))
            have HLE := Lib.hid (show (o ++ l5).length = 4 * (i9 + 1) by rw [List.length_append, hol, hl5]; omega)
            clear hr5 hl5 hol HG5 HO5 hc5 hcm5
            go_wp2_with (at_builtin; refine wpList_app (ys := (l5 : List Pt)) elP rfl _ _ rfl (by rfl) HOI.out (by rfl) rfl R5.out oneP K1.out.1 K1.out.2 HBI.out.size ?_; intro v1 w4 ownv1 grv1 atv1)
            --S4
            exact ⟨⟨i9 + 1, o ++ l5, by omega, by go_num, Lib.hid ⟨ownv1, HLI.out, HLE.out, HEX.out, below_grown HBI.out HOI.out grv1⟩⟩, by simp [intOf]; omega⟩
        · obtain rfl : i9 = xs.length := by omega
          have HEX := Lib.hid (show ExpOk rows t ((j + 1 : Nat) : Int) xs o from by have := HI.out.ex; rwa [List.take_length] at this)
          have HLE := Lib.hid (show o.length * 4 ^ j ≤ 16 by
            have h1 := HLN.out
            rw [HI.out.len, Nat.mul_comm 4, Nat.mul_assoc, ← Nat.pow_succ']
            exact h1)
          have HOI := Lib.hid (own_lowerP HI.out.own HB1.out.size)
          have HBI := Lib.hid (below_below HB1.out HI.out.bel)
          have HLI := Lib.hid HI.out.ls
          have HIFF := Lib.hid (show ∀ out, LvOk rows t d [⟨ra, rb, rs, ru, rl⟩] out ↔ LvOk rows t j o out from fun out => (HIF.out out).trans (lvOk_step HEX.out))
          clear HI HEX HIF hlt
          generalize xs.length = n9 at *
          go_wp2_with fail
          exact ⟨⟨j, o, by omega, by go_num, Lib.hid ⟨HOI.out, HLI.out, HLE.out, HIFF.out, HBI.out⟩⟩, by simp [intOf]⟩

end Go.Proofs.YtafadedacbjioaaGreatDoor

/- A tree that is valid in a store: the reference's text. -/
namespace Go.Proofs.YtafadedacbjioaaGreatDoor
open Go.RowKit Go.Sort
set_option maxRecDepth 100000
set_option linter.unusedVariables false
set_option linter.unusedSimpArgs false

def leafS (rows : List ByteArray) (top many : Int) (i : Nat) (p : Pt) : Bool := holeB p || (readB rows p && (p.level == 0 && (decide (p.birth ≤ top) && decide ((i : Int) < many))))
theorem depthB_inL (n : Int) : 0 ≤ depthB n ∧ depthB n ≤ 2 := by
  unfold depthB
  split
  · omega
  · split <;> omega
theorem ptB_one {root : Pt} (h : ptrB root = true) : PtB [root] := fun p hp => by simp at hp; rw [hp]; exact h
theorem head_iff {txg : Int} {root : Pt} {d : Nat} {many : Int} : headT txg ⟨root, d, many⟩ = true ↔ inB many 0 16 = true ∧ ((d : Int) == depthB many) = true ∧ ptrB root = true ∧ root.birth ≤ txg := by
  simp [headT, and_assoc]
theorem leaf_fail {rows : List ByteArray} {top many : Int} {root : Pt} {d i : Nat} {l : List Pt} {p : Pt} (ht : 0 ≤ top) (h : LvOk rows top d [root] l) (hp : l[i]? = some p) (hf : leafS rows top many i p = false) : ¬ ∃ out, TrOk rows top ⟨root, d, many⟩ out := fun ⟨out, hh, hlv, hl⟩ => by
  have hlv' : LvOk rows top d [root] out := hlv
  rw [lvOk_one hlv' h] at hl
  obtain ⟨_, _, h3, h4⟩ := head_iff.1 hh
  have hb := (lvOk_B ht (fun q hq => by simp at hq; rw [hq]; exact ⟨h3, h4⟩) h p (List.mem_of_getElem? hp)).2
  have := hl i p hp
  simp only [LeafOk, leafS, Bool.or_eq_true, Bool.and_eq_true, Bool.or_eq_false_iff] at this hf
  rcases this with h | ⟨h1, h2, h5⟩
  · rw [h] at hf; cases hf.1
  · rw [h1, h2, h5] at hf
    simp [hb] at hf
theorem leaf_all {rows : List ByteArray} {top many : Int} {root : Pt} {d : Nat} {l : List Pt} (ht : 0 ≤ top) (h1 : inB many 0 16 = true) (h2 : ((d : Int) == depthB many) = true) (h3 : ptrB root = true) (h : LvOk rows top d [root] l) (hl : ∀ i p, l[i]? = some p → leafS rows top many i p = true) : ∃ out, TrOk rows top ⟨root, d, many⟩ out := by
  have hb : root.birth ≤ top := by
    cases hh : holeB root
    · rcases d with _ | d
      · have e : l = [root] := h
        have := hl 0 root (by rw [e]; rfl)
        simp only [leafS, hh, Bool.false_or, Bool.and_eq_true, decide_eq_true_eq] at this
        exact this.2.2.1
      · exact lvOk_root hh h
    · rw [hole_eq hh]; exact ht
  refine ⟨l, head_iff.2 ⟨h1, h2, h3, hb⟩, h, fun i p hp => ?_⟩
  have := hl i p hp
  simp only [LeafOk, leafS, Bool.or_eq_true, Bool.and_eq_true] at this ⊢
  rcases this with h | ⟨a, b, c, d⟩
  · exact .inl h
  · exact .inr ⟨a, b, d⟩
theorem tr_none {rows : List ByteArray} {top many dep : Int} {root : Pt} (h : (inB many 0 16 && (dep == depthB many && ptrB root)) = false) : ¬ ∃ out, TrOk rows top ⟨root, dep, many⟩ out := fun ⟨out, hh, _, _⟩ => by
  simp only [headT, Bool.and_eq_true] at hh
  obtain ⟨a, b, c, _⟩ := hh
  rw [a, b, c] at h
  cases h
set_option maxHeartbeats 8000000 in
theorem l8Ok_any (w : World) (R : Option Addr) (nR cR : Nat) (A B G D : Option Addr) (nA cA nB cB nG cG nD cD : Nat) (t k : Int) (sm : Bool) (rows : List ByteArray) (tr : Tr) (h : RdT encS 1 w R rows) (hl : rows.length = nR) (h64 : nR = 64) (hz : ∀ x ∈ rows, x.size ≤ 9223372036854775807) (ht : 0 ≤ t) :
    Calls Tryz.prog 53 #[.agg #[.slice R nR cR, .slice A nA cA, .slice B nB cB, .int .i64 t, .slice G nG cG, .int .i64 k, .slice D nD cD, .bool sm], tr.v] w fun e w' => ∃ b, e = .returned (.bool b) ∧ (b = true ↔ ∃ out, TrOk rows t tr out) ∧ Below w.heap.size w w' := by
  have HRD := Lib.hid (fun W (hW : Below w.heap.size w W) p hp => l7Read_any W R nR cR A B G D nA cA nB cB nG cG nD cD t k sm rows p (h.below hW) hl h64 hz hp)
  have HLV := Lib.hid (fun W (hW : Below w.heap.size w W) root d m hp hd => l8Leaves_any W R nR cR A B G D nA cA nB cB nG cG nD cD t k sm rows root d m (h.below hW) hl h64 hz hp ht hd)
  have HT := Lib.hid ht
  clear h hl h64 hz ht
  obtain ⟨⟨ra, rb, rs, ru, rl⟩, dep, many⟩ := tr
  have HPO := Lib.hid (fun W => specPtrOk_any ⟨ra, rb, rs, ru, rl⟩ W)
  unfold Pt.v at HPO
  unfold Tr.v
  dsimp only at HPO ⊢
  have HBa := Lib.hid (below_alloc (below_alloc (Below.refl w.heap.size w) (.cells #[.slice R nR cR, .slice A nA cA, .slice B nB cB, .int .i64 t, .slice G nG cG, .int .i64 k, .slice D nD cD, .bool sm] 38)) (.cells #[.int .i64 ra, .int .i64 rb, .int .i64 rs, .int .i64 ru, .int .i64 rl, .int .i64 dep, .int .i64 many] 42))
  cases c1 : inB many 0 16
  · have HNOT := Lib.hid (tr_none (rows := rows) (top := t) (many := many) (dep := dep) (root := ⟨ra, rb, rs, ru, rl⟩) (by rw [c1]; rfl))
    go_enter Tryz.func53, Tryz.ntmps53
    go_wp2_with fail
    refine wp_quiet_b (by kernel_rfl) (by kernel_rfl) (fun hgrow => ?_)
    repeat (go_big_quiet_step (first | (go_at_call 54; exact quiet_s (l6In_any _ _ _ _)) | (go_at_call 75; exact quiet_s (l8Depth_any _ _)) | (go_at_call 74; exact quiet_b (HPO.out _))))
    refine wpQuiet_nil ?_
    intro w2 hww2
    replace hww2 := below_of_regrown hww2
    clear hgrow
    have HB2 := Lib.hid (below_below HBa.out hww2)
    clear hww2
    go_wp2_with fail
    go_ret
    exact ⟨false, rfl, ⟨fun h => absurd h (by decide), fun h => absurd h HNOT.out⟩, HB2.out⟩
  cases c2 : (dep == depthB many)
  · have HNOT := Lib.hid (tr_none (rows := rows) (top := t) (many := many) (dep := dep) (root := ⟨ra, rb, rs, ru, rl⟩) (by rw [c1, c2]; rfl))
    have n2 : (dep != depthB many) = true := by rw [bne, c2]; rfl
    go_enter Tryz.func53, Tryz.ntmps53
    go_wp2_with fail
    refine wp_quiet_b (by kernel_rfl) (by kernel_rfl) (fun hgrow => ?_)
    repeat (go_big_quiet_step (first | (go_at_call 54; exact quiet_s (l6In_any _ _ _ _)) | (go_at_call 75; exact quiet_s (l8Depth_any _ _)) | (go_at_call 74; exact quiet_b (HPO.out _))))
    refine wpQuiet_nil ?_
    intro w2 hww2
    replace hww2 := below_of_regrown hww2
    clear hgrow
    have HB2 := Lib.hid (below_below HBa.out hww2)
    clear hww2
    go_wp2_with fail
    go_ret
    exact ⟨false, rfl, ⟨fun h => absurd h (by decide), fun h => absurd h HNOT.out⟩, HB2.out⟩
  have n2 : (dep != depthB many) = false := by rw [bne, c2]; rfl
  cases c3 : ptrB ⟨ra, rb, rs, ru, rl⟩
  · have HNOT := Lib.hid (tr_none (rows := rows) (top := t) (many := many) (dep := dep) (root := ⟨ra, rb, rs, ru, rl⟩) (by rw [c1, c2, c3]; rfl))
    rw [c3] at HPO
    go_enter Tryz.func53, Tryz.ntmps53
    go_wp2_with fail
    refine wp_quiet_b (by kernel_rfl) (by kernel_rfl) (fun hgrow => ?_)
    repeat (go_big_quiet_step (first | (go_at_call 54; exact quiet_s (l6In_any _ _ _ _)) | (go_at_call 75; exact quiet_s (l8Depth_any _ _)) | (go_at_call 74; exact quiet_b (HPO.out _))))
    refine wpQuiet_nil ?_
    intro w2 hww2
    replace hww2 := below_of_regrown hww2
    clear hgrow
    have HB2 := Lib.hid (below_below HBa.out hww2)
    clear hww2
    go_wp2_with fail
    go_ret
    exact ⟨false, rfl, ⟨fun h => absurd h (by decide), fun h => absurd h HNOT.out⟩, HB2.out⟩
  rw [c3] at HPO
  have hdd := depthB_inL many
  have hde : dep = depthB many := eq_of_beq c2
  obtain ⟨d, rfl⟩ : ∃ d : Nat, dep = (d : Int) := ⟨dep.toNat, by omega⟩
  have hd2 : d ≤ 2 := by omega
  have HC := Lib.hid (And.intro c1 (And.intro c2 c3))
  have HCALL := Lib.hid (fun W (hW : Below w.heap.size w W) => HLV.out W hW ⟨ra, rb, rs, ru, rl⟩ d many c3 hd2)
  unfold Tr.v at HCALL
  dsimp only at HCALL
  have BS := Lib.hid ((box_new w #[.slice R nR cR, .slice A nA cA, .slice B nB cB, .int .i64 t, .slice G nG cG, .int .i64 k, .slice D nD cD, .bool sm] 38).alloc (.cells #[.int .i64 ra, .int .i64 rb, .int .i64 rs, .int .i64 ru, .int .i64 rl, .int .i64 (d : Int), .int .i64 many] 42))
  have BT := box_new (w.alloc (.cells #[.slice R nR cR, .slice A nA cA, .slice B nB cB, .int .i64 t, .slice G nG cG, .int .i64 k, .slice D nD cD, .bool sm] 38)) #[.int .i64 ra, .int .i64 rb, .int .i64 rs, .int .i64 ru, .int .i64 rl, .int .i64 (d : Int), .int .i64 many] 42
  rw [World.size_alloc] at BT
  replace BT := Lib.hid BT
  clear hde hdd HLV
  go_enter Tryz.func53, Tryz.ntmps53
  go_wp2_with fail
  refine wp_quiet_b (by kernel_rfl) (by kernel_rfl) (fun hgrow => ?_)
  repeat (go_big_quiet_step (first | (go_at_call 54; exact quiet_s (l6In_any _ _ _ _)) | (go_at_call 75; exact quiet_s (l8Depth_any _ _)) | (go_at_call 74; exact quiet_b (HPO.out _))))
  refine wpQuiet_nil ?_
  intro w2 hww2
  replace hww2 := below_of_regrown hww2
  clear hgrow
  have HB2 := Lib.hid (below_below HBa.out hww2)
  have BS2 := Lib.hid (BS.out.below hww2)
  have BT2 := Lib.hid (BT.out.below hww2)
  have bs2 := BS2.out.cell
  have bt2 := BT2.out.cell
  have hs2 := BS2.out.lt
  have ht2 := BT2.out.lt
  clear hww2 BS BT HBa c1 c2 c3 n2
  go_wp2_with fail
  refine Calls.mono (HCALL.out _ HB2.out) ?_
  rintro e w3 ⟨v, l, b, rfl, hG1, hG2, hB⟩
  have HG1 := Lib.hid hG1
  have HG2 := Lib.hid hG2
  have HB3 := Lib.hid (below_below HB2.out hB)
  have BS3 := Lib.hid (BS2.out.below hB)
  have BT3 := Lib.hid (BT2.out.below hB)
  clear hG1 hG2 hB bs2 bt2 hs2 ht2 BS2 BT2 HCALL HPO
  cases b
  · have HNOT := Lib.hid (show ¬ ∃ out, TrOk rows t ⟨⟨ra, rb, rs, ru, rl⟩, d, many⟩ out from fun ⟨out, _, hlv, _⟩ => HG2.out rfl out hlv)
    clear HG1 HG2
    go_wp2_with fail
    go_ret
    exact ⟨false, rfl, ⟨fun h => absurd h (by decide), fun h => absurd h HNOT.out⟩, HB3.out⟩
  obtain ⟨hlv, hpt, h16, hown⟩ := HG1.out rfl
  have HLV := Lib.hid hlv
  have HPT := Lib.hid hpt
  obtain ⟨A9, c9, rfl, q1, q2, _, hrd⟩ := hown.form
  have HRL := Lib.hid hrd
  clear hlv hpt hrd hown HG1 HG2
  go_wp2_with fail
  --S1
  go_loopw [7] (fun y wr => ∃ i9 : Nat, i9 ≤ l.length ∧ y = .int .i64 i9 ∧ Hid (∀ i p, i < i9 → l[i]? = some p → leafS rows t many i p = true) ∧ Hid (Below w3.heap.size w3 wr)) (fun y _ => l.length - (intOf y).toNat)
  case atStart => exact ⟨0, Nat.zero_le _, rfl, Lib.hid (fun i p hi => by omega), Lib.hid (Below.refl _ _)⟩
  case round =>
    obtain ⟨i9, hi9, rfl, HQ, HBr⟩ := hrel
    have HBw := Lib.hid (below_below HB3.out HBr.out)
    by_cases hlt : i9 < l.length
    · obtain ⟨b9, o9, p, rfl, hb9, he, c0, c1, c2, c3, c4⟩ := (HRL.out.below HBr.out).ptr hlt
      have hpp := HPT.out p (List.mem_of_getElem? he)
      have HFAIL := Lib.hid (fun hf => leaf_fail (many := many) HT.out HLV.out he hf)
      have HNEXT := Lib.hid (fun (hf : leafS rows t many i9 p = true) => (show ∀ i q, i < i9 + 1 → l[i]? = some q → leafS rows t many i q = true from fun i q hi hq => by
        rcases Nat.lt_or_ge i i9 with h' | h'
        · exact HQ.out i q h' hq
        · obtain rfl : i = i9 := by omega
          rw [he] at hq
          cases hq
          exact hf))
      have HPH := Lib.hid (fun W => specPtrHole_any p W)
      have HRDp := Lib.hid (fun W (hW : Below w.heap.size w W) => HRD.out W hW p hpp)
      have k2 : IntKind.i64.wrap ((i9 : Int) + 1) = (i9 : Int) + 1 := IntWalk.i64_in _ (by omega)
      have BSr := Lib.hid ((BS3.out.below HBr.out).alloc (.cells #[.int .i64 p.at_, .int .i64 p.birth, .int .i64 p.size, .int .i64 p.sum, .int .i64 p.level] 40))
      have BTr := Lib.hid ((BT3.out.below HBr.out).alloc (.cells #[.int .i64 p.at_, .int .i64 p.birth, .int .i64 p.size, .int .i64 p.sum, .int .i64 p.level] 40))
      have BPr := Lib.hid (box_new wr #[.int .i64 p.at_, .int .i64 p.birth, .int .i64 p.size, .int .i64 p.sum, .int .i64 p.level] 40)
      have HBr2 := Lib.hid (below_alloc HBr.out (.cells #[.int .i64 p.at_, .int .i64 p.birth, .int .i64 p.size, .int .i64 p.sum, .int .i64 p.level] 40))
      have HPV := Lib.hid (show p.v = .agg #[.int .i64 p.at_, .int .i64 p.birth, .int .i64 p.size, .int .i64 p.sum, .int .i64 p.level] from rfl)
      rw [HPV.out] at HPH HRDp
      clear he hpp HPV HQ HRL
      generalize l.length = n9 at *
      cases hh : holeB p
      · rw [hh] at HPH
        go_wp2_with fail
        refine Calls.mono (HPH.out _) ?_
        rintro e w5 ⟨rfl, hB⟩
        have BS5 := Lib.hid (BSr.out.below hB)
        have BT5 := Lib.hid (BTr.out.below hB)
        have BP5 := Lib.hid (BPr.out.below hB)
        have HB5r := Lib.hid (below_below HBr2.out hB)
        have HB5 := Lib.hid (below_below HB3.out HB5r.out)
        have bs5 := BS5.out.cell
        have bp5 := BP5.out.cell
        have hs5 := BS5.out.lt
        have hp5 := BP5.out.lt
        clear hB BSr BTr BPr HBr2 c0 c1 c2 c3 c4 HPH
        go_wp2_with fail
        refine Calls.mono (HRDp.out _ HB5.out) ?_
        rintro e w6 ⟨rfl, hB⟩
        have BS6 := Lib.hid (BS5.out.below hB)
        have BT6 := Lib.hid (BT5.out.below hB)
        have BP6 := Lib.hid (BP5.out.below hB)
        have HB6r := Lib.hid (below_below HB5r.out hB)
        have HB6 := Lib.hid (below_below HB5.out hB)
        have bs6 : w6.cell? ⟨w.heap.size, 3, none⟩ = some (.int .i64 t) := BS6.out.cell 3
        have bt6 : w6.cell? ⟨w.heap.size + 1, 6, none⟩ = some (.int .i64 many) := BT6.out.cell 6
        have bp6 := BP6.out.cell
        clear hB bs5 bp5 hs5 hp5 BS5 BT5 BP5 HRDp
        cases hr : readB rows p
        · have HNOT := Lib.hid (HFAIL.out (by simp [leafS, hh, hr]))
          clear HFAIL HNEXT hh
          go_wp2_with fail
          go_ret
          exact ⟨false, rfl, ⟨fun h => absurd h (by decide), fun h => absurd h HNOT.out⟩, HB6.out⟩
        cases hv : (p.level == 0)
        · have HNOT := Lib.hid (HFAIL.out (by simp [leafS, hh, hr, hv]))
          have nv : (p.level != 0) = true := by rw [bne, hv]; rfl
          clear HFAIL HNEXT hh
          go_wp2_with fail
          go_ret
          exact ⟨false, rfl, ⟨fun h => absurd h (by decide), fun h => absurd h HNOT.out⟩, HB6.out⟩
        have nv : (p.level != 0) = false := by rw [bne, hv]; rfl
        by_cases hbt : t < p.birth
        · have HNOT := Lib.hid (HFAIL.out (by have e : decide (p.birth ≤ t) = false := decide_eq_false (by omega); simp [leafS, hh, hr, hv, e]))
          have nb : decide (t < p.birth) = true := decide_eq_true hbt
          clear HFAIL HNEXT hh
          go_wp2_with fail
          go_ret
          exact ⟨false, rfl, ⟨fun h => absurd h (by decide), fun h => absurd h HNOT.out⟩, HB6.out⟩
        have nb : decide (t < p.birth) = false := decide_eq_false hbt
        by_cases him : many ≤ (i9 : Int)
        · have HNOT := Lib.hid (HFAIL.out (by have e : decide ((i9 : Int) < many) = false := decide_eq_false (by omega); simp [leafS, hh, e]))
          have ni : decide (many ≤ (i9 : Int)) = true := decide_eq_true him
          clear HFAIL HNEXT hh
          go_wp2_with fail
          go_ret
          exact ⟨false, rfl, ⟨fun h => absurd h (by decide), fun h => absurd h HNOT.out⟩, HB6.out⟩
        · have ni : decide (many ≤ (i9 : Int)) = false := decide_eq_false him
          have HN2 := Lib.hid (HNEXT.out (by have e1 : decide ((i9 : Int) < many) = true := decide_eq_true (by omega); have e2 : decide (p.birth ≤ t) = true := decide_eq_true (by omega); simp [leafS, hh, hr, hv, e1, e2]))
          clear HFAIL HNEXT hh
          go_wp2_with fail
          exact ⟨⟨i9 + 1, by omega, by go_num, HN2, HB6r⟩, by simp [intOf]; omega⟩
      · rw [hh] at HPH
        have HN2 := Lib.hid (HNEXT.out (by simp [leafS, hh]))
        clear HFAIL HNEXT hh HRDp
        go_wp2_with fail
        refine Calls.mono (HPH.out _) ?_
        rintro e w5 ⟨rfl, hB⟩
        have HB5r := Lib.hid (below_below HBr2.out hB)
        clear hB BSr BTr BPr HBr2 c0 c1 c2 c3 c4 HPH
        go_wp2_with fail
        exact ⟨⟨i9 + 1, by omega, by go_num, HN2, HB5r⟩, by simp [intOf]; omega⟩
    · obtain rfl : i9 = l.length := by omega
      have HYES := Lib.hid (leaf_all HT.out HC.out.1 HC.out.2.1 HC.out.2.2 HLV.out (fun i p hp => HQ.out i p (List.getElem?_eq_some_iff.1 hp).1 hp))
      clear HQ HRL hlt
      generalize l.length = n9 at *
      go_wp2_with fail
      go_ret
      exact ⟨true, rfl, ⟨fun _ => HYES.out, fun _ => rfl⟩, HBw.out⟩

end Go.Proofs.YtafadedacbjioaaGreatDoor

/- The pointers of a tree's places: the program's walk. -/
namespace Go.Proofs.YtafadedacbjioaaGreatDoor
open Go.RowKit Go.Sort
set_option maxRecDepth 100000
set_option linter.unusedVariables false
set_option linter.unusedSimpArgs false

theorem tree_cellsL {w : World} {b : Nat} {c0 c1 c2 c3 c4 c5 c6 : Value} {T : TypeId} (h : BoxAt w b #[c0, c1, c2, c3, c4, c5, c6] T) :
    w.cell? ⟨b, 0, none⟩ = some c0 ∧ w.cell? ⟨b, 1, none⟩ = some c1 ∧ w.cell? ⟨b, 2, none⟩ = some c2 ∧ w.cell? ⟨b, 3, none⟩ = some c3 ∧ w.cell? ⟨b, 4, none⟩ = some c4 ∧ w.cell? ⟨b, 5, none⟩ = some c5 ∧ w.cell? ⟨b, 6, none⟩ = some c6 :=
  ⟨h.cell 0, h.cell 1, h.cell 2, h.cell 3, h.cell 4, h.cell 5, h.cell 6⟩
theorem expOk_len {rows : List ByteArray} {top lv : Int} : ∀ {xs out : List Pt}, ExpOk rows top lv xs out → out.length = 4 * xs.length
  | [], out, h => by rw [show out = [] from h]; rfl
  | p :: r, _, ⟨l, o, h1, h2, rfl⟩ => by rw [List.length_append, belG_len h1, expOk_len h2, List.length_cons]; omega
theorem lvOk_len {rows : List ByteArray} {top : Int} : ∀ {d : Nat} {xs out : List Pt}, LvOk rows top d xs out → out.length = 4 ^ d * xs.length
  | 0, _, _, h => by rw [show _ = _ from h]; simp
  | d + 1, _, _, ⟨m, h1, h2⟩ => by rw [lvOk_len h2, expOk_len h1, Nat.pow_succ, Nat.mul_assoc]
theorem many_le {rows : List ByteArray} {top many : Int} {d : Nat} {root : Pt} {l : List Pt} (h1 : inB many 0 16 = true) (h2 : ((d : Int) == depthB many) = true) (h : LvOk rows top d [root] l) : many ≤ l.length := by
  have hl := lvOk_len h
  have hm := inB_true h1
  have hd : (d : Int) = depthB many := eq_of_beq h2
  unfold depthB at hd
  simp only [List.length_cons, List.length_nil, Nat.mul_one] at hl
  split at hd
  · have : d = 0 := by omega
    subst this
    simp at hl
    omega
  · split at hd
    · have : d = 1 := by omega
      subst this
      simp at hl
      omega
    · have : d = 2 := by omega
      subst this
      simp at hl
      omega
def leafI (rows : List ByteArray) (many : Int) (i : Nat) (p : Pt) : Bool := readB rows p && (p.level == 0 && (decide ((i : Int) < many) || holeB p))
theorem leafI_eq (rows : List ByteArray) (many : Int) (i : Nat) (p : Pt) : leafI rows many i p = LeafOk rows many i p := by
  unfold leafI LeafOk
  cases hh : holeB p
  · simp
  · have hr : readB rows p = true := by simp [readB, hh]
    have hv : (p.level == 0) = true := by rw [hole_eq hh]; rfl
    rw [hr, hv]
    simp
structure LRelI (W1 : World) (rows : List ByteArray) (d : Nat) (root : Pt) (top : Int) (j : Nat) (xs : List Pt) (v : Value) (wr : World) : Prop where
  own : Own encP 5 40 W1.heap.size wr v xs
  ls : LsB top xs
  len : xs.length * 4 ^ j ≤ 16
  iff : ∀ out, LvOk rows top d [root] out ↔ LvOk rows top j xs out
  bel : Below W1.heap.size W1 wr
structure IRelI (W2 : World) (rows : List ByteArray) (lv : Int) (top : Int) (xs : List Pt) (k : Nat) (o : List Pt) (v : Value) (wr : World) : Prop where
  own : Own encP 5 40 W2.heap.size wr v o
  ls : LsB top o
  len : o.length = 4 * k
  ex : ExpOk rows top lv (xs.take k) o
  bel : Below W2.heap.size W2 wr
def LvsP (w : World) (rows : List ByteArray) (t : Int) (tr : Tr) (e : Ending) (w' : World) : Prop := ∃ (A : Option Addr) (c : Nat) (l : List Pt) (b : Bool), e = .returned (.tuple #[.slice A l.length c, .bool b]) ∧ LvsG rows t tr l b ∧ RdT encP 5 w' A l ∧ l.length ≤ c ∧ c ≤ 9223372036854775807 ∧ (A = none → c = 0 ∧ l = []) ∧ l.length ≤ 16 ∧ Below w.heap.size w w'
theorem lvs_no {rows : List ByteArray} {top : Int} {tr : Tr} (h : headT top tr = false) : ∀ out, ¬ TrOk rows top tr out := fun out ⟨h1, _, _⟩ => by rw [h] at h1; cases h1
theorem rd_takeL {w : World} {A : Option Addr} {xs : List Pt} (h : RdT encP 5 w A xs) (k : Nat) : RdT encP 5 w A (xs.take k) := fun hn => by
  rw [List.length_take] at hn
  obtain ⟨b, off, rfl, hb, hc⟩ := h (by omega)
  refine ⟨b, off, rfl, hb, fun i x hx j hj => hc i x ?_ j hj⟩
  rw [List.getElem?_take] at hx
  split at hx
  · exact hx
  · cases hx
set_option maxHeartbeats 8000000 in
theorem leaves_any (w : World) (sb : Nat) (R : Option Addr) (nR cR : Nat) (v1 v2 v4 v5 v6 v7 : Value) (t : Int) (rows : List ByteArray) (tr : Tr) (hB : BoxAt w sb #[.slice R nR cR, v1, v2, .int .i64 t, v4, v5, v6, v7] 38) (h : RdT encS 1 w R rows) (hl : rows.length = nR) (h64 : nR = 64) (hz : ∀ x ∈ rows, x.size ≤ 9223372036854775807) (ht : 0 ≤ t) (hM : MaxAt w) (hT : TenAt w) (hE : ErrAt w) :
    Calls Tryz.prog 46 #[.pointer (some ⟨sb, 0, none⟩), tr.v] w (LvsP w rows t tr) := by
  have HRD := Lib.hid (fun W (hW : Below w.heap.size w W) p hp => read_any W sb R nR cR v1 v2 (.int .i64 t) v4 v5 v6 v7 rows p (hB.below hW) (h.below hW) hl h64 hz hp)
  have HFO := Lib.hid (fun W (hW : Below w.heap.size w W) p lv hp hbt => fanOf_any W sb R nR cR v1 v2 (.int .i64 t) v4 v5 v6 v7 rows p t lv (hB.below hW) (h.below hW) hl h64 hz hp hbt (hM.below hW) (hT.below hW) (hE.below hW))
  have HT0 := Lib.hid ht
  have HSB := Lib.hid hB
  clear h hl h64 hz ht hM hT hE
  obtain ⟨⟨ra, rb, rs, ru, rl⟩, dep, many⟩ := tr
  have HPO := Lib.hid (fun W => ptrOk_any ⟨ra, rb, rs, ru, rl⟩ W)
  unfold Pt.v at HPO
  unfold Tr.v
  dsimp only at HPO ⊢
  have HBa := Lib.hid (below_alloc (Below.refl w.heap.size w) (.cells #[.int .i64 ra, .int .i64 rb, .int .i64 rs, .int .i64 ru, .int .i64 rl, .int .i64 dep, .int .i64 many] 42))
  have BT := Lib.hid (box_new w #[.int .i64 ra, .int .i64 rb, .int .i64 rs, .int .i64 ru, .int .i64 rl, .int .i64 dep, .int .i64 many] 42)
  have BS := Lib.hid (hB.alloc (.cells #[.int .i64 ra, .int .i64 rb, .int .i64 rs, .int .i64 ru, .int .i64 rl, .int .i64 dep, .int .i64 many] 42))
  clear hB
  unfold LvsP
  cases c1 : inB many 0 16
  · have HNOT := Lib.hid (lvs_no (rows := rows) (top := t) (tr := ⟨⟨ra, rb, rs, ru, rl⟩, dep, many⟩) (by simp [headT, c1]))
    go_enter Tryz.func46, Tryz.ntmps46
    go_wp2_with fail
    generalize w.alloc (.cells #[.int .i64 ra, .int .i64 rb, .int .i64 rs, .int .i64 ru, .int .i64 rl, .int .i64 dep, .int .i64 many] 42) = W1 at *
    obtain ⟨x0, x1, x2, x3, x4, x5, x6⟩ := tree_cellsL BT.out
    have hx := BT.out.lt
    have y3 : W1.cell? ⟨sb, 3, none⟩ = some (.int .i64 t) := BS.out.cell 3
    have hy := BS.out.lt
    refine wp_quiet_b (by kernel_rfl) (by kernel_rfl) (fun hgrow => ?_)
    repeat (go_big_quiet_step (first | (go_at_call 56; exact quiet_s (within_any _ _ _ _)) | (go_at_call 70; exact quiet_s (depthOf_any _ _)) | (go_at_call 69; exact quiet_b (HPO.out _))))
    refine wpQuiet_nil ?_
    intro w2 hww2
    replace hww2 := below_of_regrown hww2
    clear hgrow
    have HB2 := Lib.hid (below_below HBa.out hww2)
    clear hww2
    go_wp2_with fail
    go_ret2
    exact ⟨none, 0, [], false, rfl, .inr ⟨rfl, rfl, HNOT.out⟩, RdT.none_, Nat.le_refl _, by omega, fun _ => ⟨rfl, rfl⟩, by simp, HB2.out⟩
  cases c2 : (dep == depthB many)
  · have HNOT := Lib.hid (lvs_no (rows := rows) (top := t) (tr := ⟨⟨ra, rb, rs, ru, rl⟩, dep, many⟩) (by simp [headT, c1, c2]))
    have n2 : (dep != depthB many) = true := by rw [bne, c2]; rfl
    go_enter Tryz.func46, Tryz.ntmps46
    go_wp2_with fail
    generalize w.alloc (.cells #[.int .i64 ra, .int .i64 rb, .int .i64 rs, .int .i64 ru, .int .i64 rl, .int .i64 dep, .int .i64 many] 42) = W1 at *
    obtain ⟨x0, x1, x2, x3, x4, x5, x6⟩ := tree_cellsL BT.out
    have hx := BT.out.lt
    have y3 : W1.cell? ⟨sb, 3, none⟩ = some (.int .i64 t) := BS.out.cell 3
    have hy := BS.out.lt
    refine wp_quiet_b (by kernel_rfl) (by kernel_rfl) (fun hgrow => ?_)
    repeat (go_big_quiet_step (first | (go_at_call 56; exact quiet_s (within_any _ _ _ _)) | (go_at_call 70; exact quiet_s (depthOf_any _ _)) | (go_at_call 69; exact quiet_b (HPO.out _))))
    refine wpQuiet_nil ?_
    intro w2 hww2
    replace hww2 := below_of_regrown hww2
    clear hgrow
    have HB2 := Lib.hid (below_below HBa.out hww2)
    clear hww2
    go_wp2_with fail
    go_ret2
    exact ⟨none, 0, [], false, rfl, .inr ⟨rfl, rfl, HNOT.out⟩, RdT.none_, Nat.le_refl _, by omega, fun _ => ⟨rfl, rfl⟩, by simp, HB2.out⟩
  have n2 : (dep != depthB many) = false := by rw [bne, c2]; rfl
  cases c3 : ptrB ⟨ra, rb, rs, ru, rl⟩
  · have HNOT := Lib.hid (lvs_no (rows := rows) (top := t) (tr := ⟨⟨ra, rb, rs, ru, rl⟩, dep, many⟩) (by simp [headT, c1, c2, c3]))
    rw [c3] at HPO
    go_enter Tryz.func46, Tryz.ntmps46
    go_wp2_with fail
    generalize w.alloc (.cells #[.int .i64 ra, .int .i64 rb, .int .i64 rs, .int .i64 ru, .int .i64 rl, .int .i64 dep, .int .i64 many] 42) = W1 at *
    obtain ⟨x0, x1, x2, x3, x4, x5, x6⟩ := tree_cellsL BT.out
    have hx := BT.out.lt
    have y3 : W1.cell? ⟨sb, 3, none⟩ = some (.int .i64 t) := BS.out.cell 3
    have hy := BS.out.lt
    refine wp_quiet_b (by kernel_rfl) (by kernel_rfl) (fun hgrow => ?_)
    repeat (go_big_quiet_step (first | (go_at_call 56; exact quiet_s (within_any _ _ _ _)) | (go_at_call 70; exact quiet_s (depthOf_any _ _)) | (go_at_call 69; exact quiet_b (HPO.out _))))
    refine wpQuiet_nil ?_
    intro w2 hww2
    replace hww2 := below_of_regrown hww2
    clear hgrow
    have HB2 := Lib.hid (below_below HBa.out hww2)
    clear hww2
    go_wp2_with fail
    go_ret2
    exact ⟨none, 0, [], false, rfl, .inr ⟨rfl, rfl, HNOT.out⟩, RdT.none_, Nat.le_refl _, by omega, fun _ => ⟨rfl, rfl⟩, by simp, HB2.out⟩
  rw [c3] at HPO
  by_cases c4 : t < rb
  · have HNOT := Lib.hid (lvs_no (rows := rows) (top := t) (tr := ⟨⟨ra, rb, rs, ru, rl⟩, dep, many⟩) (by have e : decide (rb ≤ t) = false := decide_eq_false (by omega); simp [headT, c1, c2, c3, e]))
    have n4 : decide (t < rb) = true := decide_eq_true c4
    go_enter Tryz.func46, Tryz.ntmps46
    go_wp2_with fail
    generalize w.alloc (.cells #[.int .i64 ra, .int .i64 rb, .int .i64 rs, .int .i64 ru, .int .i64 rl, .int .i64 dep, .int .i64 many] 42) = W1 at *
    obtain ⟨x0, x1, x2, x3, x4, x5, x6⟩ := tree_cellsL BT.out
    have hx := BT.out.lt
    have y3 : W1.cell? ⟨sb, 3, none⟩ = some (.int .i64 t) := BS.out.cell 3
    have hy := BS.out.lt
    refine wp_quiet_b (by kernel_rfl) (by kernel_rfl) (fun hgrow => ?_)
    repeat (go_big_quiet_step (first | (go_at_call 56; exact quiet_s (within_any _ _ _ _)) | (go_at_call 70; exact quiet_s (depthOf_any _ _)) | (go_at_call 69; exact quiet_b (HPO.out _))))
    refine wpQuiet_nil ?_
    intro w2 hww2
    replace hww2 := below_of_regrown hww2
    clear hgrow
    have HB2 := Lib.hid (below_below HBa.out hww2)
    clear hww2
    go_wp2_with fail
    go_ret2
    exact ⟨none, 0, [], false, rfl, .inr ⟨rfl, rfl, HNOT.out⟩, RdT.none_, Nat.le_refl _, by omega, fun _ => ⟨rfl, rfl⟩, by simp, HB2.out⟩
  have n4 : decide (t < rb) = false := decide_eq_false c4
  have hdd := depthB_inL many
  have hde : dep = depthB many := eq_of_beq c2
  obtain ⟨d, rfl⟩ : ∃ d : Nat, dep = (d : Int) := ⟨dep.toNat, by omega⟩
  have hd2 : d ≤ 2 := by omega
  have HC := Lib.hid (And.intro c1 (And.intro c2 (And.intro c3 (show rb ≤ t by omega))))
  clear hde hdd
  go_enter Tryz.func46, Tryz.ntmps46
  go_wp2_with fail
  generalize w.alloc (.cells #[.int .i64 ra, .int .i64 rb, .int .i64 rs, .int .i64 ru, .int .i64 rl, .int .i64 (d : Int), .int .i64 many] 42) = W1 at *
  obtain ⟨x0, x1, x2, x3, x4, x5, x6⟩ := tree_cellsL BT.out
  have hx := BT.out.lt
  have y3 : W1.cell? ⟨sb, 3, none⟩ = some (.int .i64 t) := BS.out.cell 3
  have hy := BS.out.lt
  refine wp_quiet_b (by kernel_rfl) (by kernel_rfl) (fun hgrow => ?_)
  repeat (go_big_quiet_step (first | (go_at_call 56; exact quiet_s (within_any _ _ _ _)) | (go_at_call 70; exact quiet_s (depthOf_any _ _)) | (go_at_call 69; exact quiet_b (HPO.out _))))
  refine wpQuiet_nil ?_
  intro w2 hww2
  replace hww2 := below_of_regrown hww2
  clear hgrow
  have HB2 := Lib.hid (below_below HBa.out hww2)
  have BT2 := Lib.hid (BT.out.below hww2)
  have bt2 := BT2.out.cell
  have hlt2 := BT2.out.lt
  clear hww2 BT BS HBa c1 c2 c3 n2 n4 c4 HPO x0 x1 x2 x3 x4 x5 x6 hx y3 hy
  go_wp2_with fail
  --S1
  go_loopw [6, 7] (fun v y wr => ∃ (j : Nat) (xs : List Pt), j ≤ 2 ∧ y = .int .i64 j ∧ Hid (LRelI w2 rows d ⟨ra, rb, rs, ru, rl⟩ t j xs v wr)) (fun v y _ => (intOf y).toNat)
  case atStart => exact ⟨d, _, hd2, rfl, Lib.hid ⟨own_onePtAt rfl (Nat.le_refl _), fun p hp => by (simp at hp; rw [hp]; exact ⟨HC.out.2.2.1, HC.out.2.2.2⟩), by (rcases (show d = 0 ∨ d = 1 ∨ d = 2 by omega) with rfl | rfl | rfl <;> simp), fun out => Iff.rfl, below_alloc (Below.refl _ _) _⟩⟩
  case round =>
    obtain ⟨wz, rfl⟩ : ∃ wz, wz = wr := ⟨wr, rfl⟩
    obtain ⟨j, xs, hj, rfl, HL⟩ := hrel
    clear bt2 hlt2
    rcases j with _ | j
    · have HLV := Lib.hid (show LvOk rows t d [⟨ra, rb, rs, ru, rl⟩] xs from (HL.out.iff xs).2 rfl)
      have HLS := Lib.hid HL.out.ls
      obtain ⟨A9, c9, rfl, q1, q2, _, hrd⟩ := HL.out.own.form
      have HRX := Lib.hid hrd
      have hmle := many_le HC.out.1 HC.out.2.1 HLV.out
      have hm0 := inB_true HC.out.1
      have h16 : xs.length ≤ 16 := by have := HL.out.len; simpa using this
      have HBz := Lib.hid (below_below HB2.out HL.out.bel)
      have BTz := Lib.hid (BT2.out.below HL.out.bel)
      clear HL hrd
      obtain ⟨mn, rfl⟩ : ∃ mn : Nat, many = (mn : Int) := ⟨many.toNat, by omega⟩
      have HMN := Lib.hid (show mn ≤ xs.length by omega)
      have hmc : mn ≤ c9 := by omega
      have hxl : xs.length ≤ c9 := q1
      clear hmle hm0
      rw [show ((0 : Nat) : Int) = 0 from rfl]
      go_wp2_with fail
      --S2
      go_loopw [76] (fun y wr => ∃ i9 : Nat, i9 ≤ xs.length ∧ y = .int .i64 i9 ∧ Hid (∀ i p, i < i9 → xs[i]? = some p → LeafOk rows mn i p = true) ∧ Hid (Below wz.heap.size wz wr)) (fun y _ => xs.length - (intOf y).toNat)
      case atStart => exact ⟨0, Nat.zero_le _, rfl, Lib.hid (fun i p hi => by omega), Lib.hid (Below.refl _ _)⟩
      case round =>
        obtain ⟨i9, hi9, rfl, HQ, HBr⟩ := hrel
        have HBw := Lib.hid (below_below HBz.out HBr.out)
        by_cases hlt : i9 < xs.length
        · obtain ⟨b9, o9, p, rfl, hb9, he, p0, p1, p2, p3, p4⟩ := (HRX.out.below HBr.out).ptr hlt
          have hpp := (HLS.out p (List.mem_of_getElem? he)).1
          have HFAIL := Lib.hid (fun (hf : leafI rows mn i9 p = false) => (show ∀ out, ¬ TrOk rows t ⟨⟨ra, rb, rs, ru, rl⟩, d, mn⟩ out from fun out ⟨_, hlv, hall⟩ => by
            have hlv' : LvOk rows t d [⟨ra, rb, rs, ru, rl⟩] out := hlv
            rw [lvOk_one hlv' HLV.out] at hall
            have := hall i9 p he
            rw [← leafI_eq, hf] at this
            cases this))
          have HNEXT := Lib.hid (fun (hf : leafI rows mn i9 p = true) => (show ∀ i q, i < i9 + 1 → xs[i]? = some q → LeafOk rows mn i q = true from fun i q hi hq => by
            rcases Nat.lt_or_ge i i9 with h' | h'
            · exact HQ.out i q h' hq
            · obtain rfl : i = i9 := by omega
              rw [he] at hq
              cases hq
              rw [← leafI_eq]
              exact hf))
          have HPH := Lib.hid (fun W => ptrHole_any p W)
          have HRDp := Lib.hid (fun W (hW : Below w.heap.size w W) => HRD.out W hW p hpp)
          have k2 : IntKind.i64.wrap ((i9 : Int) + 1) = (i9 : Int) + 1 := IntWalk.i64_in _ (by omega)
          have BTr := Lib.hid ((BTz.out.below HBr.out).alloc (.cells #[.int .i64 p.at_, .int .i64 p.birth, .int .i64 p.size, .int .i64 p.sum, .int .i64 p.level] 40))
          have BPr := Lib.hid (box_new wr #[.int .i64 p.at_, .int .i64 p.birth, .int .i64 p.size, .int .i64 p.sum, .int .i64 p.level] 40)
          have HBr2 := Lib.hid (below_alloc HBr.out (.cells #[.int .i64 p.at_, .int .i64 p.birth, .int .i64 p.size, .int .i64 p.sum, .int .i64 p.level] 40))
          have HPV := Lib.hid (show p.v = .agg #[.int .i64 p.at_, .int .i64 p.birth, .int .i64 p.size, .int .i64 p.sum, .int .i64 p.level] from rfl)
          rw [HPV.out] at HPH HRDp
          have HBw2 := Lib.hid (below_below HBz.out HBr2.out)
          clear he hpp HPV HQ HRX
          have HX9 := Lib.hid hi9
          generalize xs.length = n9 at *
          go_wp2_with fail
          refine Calls.mono (HRDp.out _ HBw2.out) ?_
          rintro e w6 ⟨rfl, hB⟩
          have BT6 := Lib.hid (BTr.out.below hB)
          have BP6 := Lib.hid (BPr.out.below hB)
          have HB6r := Lib.hid (below_below HBr2.out hB)
          have HB6 := Lib.hid (below_below HBw2.out hB)
          have bt6 : w6.cell? ⟨w.heap.size, 6, none⟩ = some (.int .i64 (mn : Int)) := BT6.out.cell 6
          have bp6 := BP6.out.cell
          have hp6 := BP6.out.lt
          clear hB BTr BPr HBr2 HBw2 HRDp p0 p1 p2 p3 p4
          cases hr : readB rows p
          · have HNOT := Lib.hid (HFAIL.out (by simp [leafI, hr]))
            clear HFAIL HNEXT
            go_wp2_with fail
            go_ret2
            exact ⟨none, 0, [], false, rfl, .inr ⟨rfl, rfl, HNOT.out⟩, RdT.none_, Nat.le_refl _, by omega, fun _ => ⟨rfl, rfl⟩, by simp, HB6.out⟩
          cases hv : (p.level == 0)
          · have HNOT := Lib.hid (HFAIL.out (by simp [leafI, hr, hv]))
            have nv : (p.level != 0) = true := by rw [bne, hv]; rfl
            clear HFAIL HNEXT
            go_wp2_with fail
            go_ret2
            exact ⟨none, 0, [], false, rfl, .inr ⟨rfl, rfl, HNOT.out⟩, RdT.none_, Nat.le_refl _, by omega, fun _ => ⟨rfl, rfl⟩, by simp, HB6.out⟩
          have nv : (p.level != 0) = false := by rw [bne, hv]; rfl
          by_cases him : (mn : Int) ≤ (i9 : Int)
          · have ni : decide ((mn : Int) ≤ (i9 : Int)) = true := decide_eq_true him
            have ei : decide ((i9 : Int) < (mn : Int)) = false := decide_eq_false (by omega)
            cases hh : holeB p
            · have HNOT := Lib.hid (HFAIL.out (by simp only [leafI, hr, hv, ei, hh]; rfl))
              rw [hh] at HPH
              clear HFAIL HNEXT hh ei
              go_wp2_with fail
              refine Calls.mono (HPH.out _) ?_
              rintro e w7 ⟨rfl, hB⟩
              have HB7 := Lib.hid (below_below HB6.out hB)
              clear hB
              go_wp2_with fail
              go_ret2
              exact ⟨none, 0, [], false, rfl, .inr ⟨rfl, rfl, HNOT.out⟩, RdT.none_, Nat.le_refl _, by omega, fun _ => ⟨rfl, rfl⟩, by simp, HB7.out⟩
            · have HN2 := Lib.hid (HNEXT.out (by simp only [leafI, hr, hv, ei, hh]; rfl))
              rw [hh] at HPH
              clear HFAIL HNEXT hh ei
              go_wp2_with fail
              refine Calls.mono (HPH.out _) ?_
              rintro e w7 ⟨rfl, hB⟩
              have HB7 := Lib.hid (below_below HB6r.out hB)
              clear hB
              go_wp2_with fail
              exact ⟨⟨i9 + 1, by omega, by go_num, HN2, HB7⟩, by simp [intOf]; omega⟩
          · have ni : decide ((mn : Int) ≤ (i9 : Int)) = false := decide_eq_false him
            have ei : decide ((i9 : Int) < (mn : Int)) = true := decide_eq_true (by omega)
            have HN2 := Lib.hid (HNEXT.out (by simp only [leafI, hr, hv, ei]; rfl))
            clear HFAIL HNEXT ei
            go_wp2_with fail
            exact ⟨⟨i9 + 1, by omega, by go_num, HN2, HB6r⟩, by simp [intOf]; omega⟩
        · obtain rfl : i9 = xs.length := by omega
          have HYES := Lib.hid (show TrOk rows t ⟨⟨ra, rb, rs, ru, rl⟩, d, mn⟩ xs from ⟨head_iff.2 HC.out, HLV.out, fun i p hp => HQ.out i p (List.getElem?_eq_some_iff.1 hp).1 hp⟩)
          have HTK := Lib.hid (show (xs.take mn).length = mn by rw [List.length_take]; have := HMN.out; omega)
          have HRr := Lib.hid (rd_takeL (HRX.out.below HBr.out) mn)
          have BTr := Lib.hid (BTz.out.below HBr.out)
          have bt6 : wr.cell? ⟨w.heap.size, 6, none⟩ = some (.int .i64 (mn : Int)) := BTr.out.cell 6
          have hbtl := BTr.out.lt
          have hmx : (mn : Int) ≤ (c9 : Int) := by omega
          have hmx2 : (mn : Int) ≤ (xs.length : Int) := by have := HMN.out; omega
          have hmx3 : mn ≤ xs.length := HMN.out
          have HSM := Lib.hid (show A9 ≠ none from fun hA => by
            have hl1 := lvOk_len HLV.out
            obtain ⟨b, off, hA2, _⟩ := HRX.out (by rw [hl1]; simp; exact Nat.one_le_pow _ _ (by decide))
            rw [hA] at hA2
            cases hA2)
          have HN16 := Lib.hid (show mn ≤ 16 by omega)
          clear HQ HRX hlt HMN
          generalize xs.length = n9 at *
          go_wp2_with fail
          go_ret2
          refine ⟨A9, mn, xs.take mn, true, ?_, .inl ⟨rfl, xs, HYES.out, by simp⟩, HRr.out, by rw [HTK.out]; exact Nat.le_refl _, by omega, fun hA => absurd hA HSM.out, by rw [HTK.out]; have := HN16.out; omega, HBw.out⟩
          rw [HTK.out]
          rfl
    · have hlen : xs.length ≤ 16 := by
        have h1 := HL.out.len
        have h2 : 1 ≤ 4 ^ (j + 1) := Nat.one_le_pow _ _ (by decide)
        have h3 := Nat.le_mul_of_pos_right xs.length h2
        omega
      obtain ⟨A9, c9, rfl, q1, q2, _, hrd⟩ := HL.out.own.form
      have HRX := Lib.hid hrd
      have HBz := Lib.hid (below_below HB2.out HL.out.bel)
      have HB1 := Lib.hid HL.out.bel
      have HIF := Lib.hid HL.out.iff
      have HLS := Lib.hid HL.out.ls
      have HLN := Lib.hid HL.out.len
      have hcast : ((j + 1 : Nat) : Int) = (j : Int) + 1 := by omega
      rw [hcast]
      have hjp : (0 : Int) < (j : Int) + 1 := by omega
      have k1 : IntKind.i64.wrap ((j : Int) + 1 - 1) = (j : Int) := by rw [IntWalk.i64_in _ (by omega)]; omega
      have k0 : IntKind.i64.wrap (j : Int) = (j : Int) := IntWalk.i64_in _ (by omega)
      clear hcast hrd HL
      go_wp2_with fail
      --S3
      go_loopw [8, 56] (fun v y wr => ∃ (i9 : Nat) (o : List Pt), i9 ≤ xs.length ∧ y = .int .i64 i9 ∧ Hid (IRelI wz rows ((j + 1 : Nat) : Int) t xs i9 o v wr)) (fun v y _ => xs.length - (intOf y).toNat)
      case atStart => exact ⟨0, [], Nat.zero_le _, rfl, Lib.hid ⟨Own.nil, fun p hp => by simp at hp, rfl, rfl, Below.refl _ _⟩⟩
      case round =>
        obtain ⟨i9, o, hi9, rfl, HI⟩ := hrel
        by_cases hlt : i9 < xs.length
        · obtain ⟨b9, o9, p, rfl, hb9, he, p0, p1, p2, p3, p4⟩ := (HRX.out.below HI.out.bel).ptr hlt
          have HE := Lib.hid he
          have HPX := Lib.hid (HLS.out p (List.mem_of_getElem? he))
          have HBr := Lib.hid (below_below HBz.out HI.out.bel)
          have HBr2 := Lib.hid (below_alloc HBr.out (.cells #[.int .i64 p.at_, .int .i64 p.birth, .int .i64 p.size, .int .i64 p.sum, .int .i64 p.level] 40))
          have HCALL := Lib.hid (HFO.out _ HBr2.out p ((j + 1 : Nat) : Int) HPX.out.1 HPX.out.2)
          have k2 : IntKind.i64.wrap ((i9 : Int) + 1) = (i9 : Int) + 1 := IntWalk.i64_in _ (by omega)
          have HIB := Lib.hid (below_alloc HI.out.bel (.cells #[.int .i64 p.at_, .int .i64 p.birth, .int .i64 p.size, .int .i64 p.sum, .int .i64 p.level] 40))
          have HIO := Lib.hid (own_allocPF HI.out.own (.cells #[.int .i64 p.at_, .int .i64 p.birth, .int .i64 p.size, .int .i64 p.sum, .int .i64 p.level] 40))
          have HPV := Lib.hid (show p.v = .agg #[.int .i64 p.at_, .int .i64 p.birth, .int .i64 p.size, .int .i64 p.sum, .int .i64 p.level] from rfl)
          rw [HPV.out] at HCALL
          clear he HPV
          have HX9 := Lib.hid hi9
          generalize hn9 : xs.length = n9 at *
          have HN9 := Lib.hid hn9
          clear hn9
          go_wp2_with fail
          refine Calls.mono HCALL.out ?_
          rintro e w5 ⟨v5, l5, b5, rfl, hG5, hO5, hB5⟩
          have HG5 := Lib.hid hG5
          have HO5 := Lib.hid hO5
          have HBw5 := Lib.hid (below_below HBr2.out hB5)
          have HBI := Lib.hid (below_below HIB.out hB5)
          have HOI := Lib.hid (HIO.out.below hB5)
          clear hG5 hO5 hB5 p0 p1 p2 p3 p4 HCALL HIB HIO
          cases b5
          · have HNOT := Lib.hid (show ∀ out, ¬ TrOk rows t ⟨⟨ra, rb, rs, ru, rl⟩, d, many⟩ out from fun out ⟨_, hlv, _⟩ => lvOk_bad (List.mem_of_getElem? HE.out) HG5.out ((HIF.out out).1 hlv))
            clear HG5 HO5
            go_wp2_with fail
            go_ret2
            exact ⟨none, 0, [], false, rfl, .inr ⟨rfl, rfl, HNOT.out⟩, RdT.none_, Nat.le_refl _, by omega, fun _ => ⟨rfl, rfl⟩, by simp, HBw5.out⟩
          · obtain ⟨A5, c5, rfl, hc5, hcm5, _, hr5⟩ := (HO5.out rfl).form
            have R5 := Lib.hid hr5
            have hl5 := belG_len HG5.out
            have hol := HI.out.len
            have K1 := Lib.hid (And.intro (show (o.length + l5.length) * 40 ≤ 140737488355328 by omega) (show o.length + l5.length ≤ maxLen by unfold maxLen; omega))
            have HEX := Lib.hid (expOk_take HI.out.ex HE.out HG5.out)
            have HLI := Lib.hid (lsB_app HI.out.ls (belG_B HT0.out HG5.out))
            have HLE := Lib.hid (show (o ++ l5).length = 4 * (i9 + 1) by rw [List.length_append, hol, hl5]; omega)
            clear hr5 hl5 hol HG5 HO5 hc5 hcm5
            go_wp2_with (at_builtin; refine wpList_app (ys := (l5 : List Pt)) elP rfl _ _ rfl (by rfl) HOI.out (by rfl) rfl R5.out oneP K1.out.1 K1.out.2 HBI.out.size ?_; intro v1 w4 ownv1 grv1 atv1)
            exact ⟨⟨i9 + 1, o ++ l5, by omega, by go_num, Lib.hid ⟨ownv1, HLI.out, HLE.out, HEX.out, below_grown HBI.out HOI.out grv1⟩⟩, by simp [intOf]; omega⟩
        · obtain rfl : i9 = xs.length := by omega
          have HEX := Lib.hid (show ExpOk rows t ((j + 1 : Nat) : Int) xs o from by have := HI.out.ex; rwa [List.take_length] at this)
          have HLE := Lib.hid (show o.length * 4 ^ j ≤ 16 by
            have h1 := HLN.out
            rw [HI.out.len, Nat.mul_comm 4, Nat.mul_assoc, ← Nat.pow_succ']
            exact h1)
          have HOI := Lib.hid (own_lowerP HI.out.own HB1.out.size)
          have HBI := Lib.hid (below_below HB1.out HI.out.bel)
          have HLI := Lib.hid HI.out.ls
          have HIFF := Lib.hid (show ∀ out, LvOk rows t d [⟨ra, rb, rs, ru, rl⟩] out ↔ LvOk rows t j o out from fun out => (HIF.out out).trans (lvOk_step HEX.out))
          clear HI HEX HIF hlt
          generalize xs.length = n9 at *
          go_wp2_with fail
          exact ⟨⟨j, o, by omega, by go_num, Lib.hid ⟨HOI.out, HLI.out, HLE.out, HIFF.out, HBI.out⟩⟩, by simp [intOf]⟩

end Go.Proofs.YtafadedacbjioaaGreatDoor

/- Trees in a store: both texts' TreeOk and TreeLeaves. -/
namespace Go.Proofs.YtafadedacbjioaaGreatDoor
open Go.RowKit Go.Sort
set_option maxRecDepth 100000
set_option linter.unusedVariables false
set_option linter.unusedSimpArgs false

theorem store_txg {s : St} (h : storeB s = true) : 0 ≤ s.txg := by
  simp only [storeB, headB, Bool.and_eq_true, decide_eq_true_eq] at h
  have := inB_true h.1.2.2.1
  omega
def TLG (s : St) (tr : Tr) (l : List Pt) (b : Bool) : Prop := (storeB s = true ∧ LvsG s.rows s.txg tr l b) ∨ (storeB s = false ∧ l = [] ∧ b = false)
theorem tlg_one {s : St} {tr : Tr} {l l' : List Pt} {b b' : Bool} (h : TLG s tr l b) (h' : TLG s tr l' b') : b = b' ∧ l = l' := by
  rcases h with ⟨h1, h⟩ | ⟨h1, rfl, rfl⟩
  · rcases h' with ⟨_, h'⟩ | ⟨h1', _⟩
    · exact lvsG_one h h'
    · rw [h1] at h1'; cases h1'
  · rcases h' with ⟨h1', _⟩ | ⟨_, rfl, rfl⟩
    · rw [h1] at h1'; cases h1'
    · exact ⟨rfl, rfl⟩
theorem tlg_ok {s : St} {tr : Tr} {l : List Pt} {b : Bool} (h : TLG s tr l b) : b = true ↔ (storeB s = true ∧ ∃ out, TrOk s.rows s.txg tr out) := by
  rcases h with ⟨h1, h⟩ | ⟨h1, rfl, rfl⟩
  · rcases h with ⟨rfl, o, h2, _⟩ | ⟨rfl, _, h2⟩
    · exact ⟨fun _ => ⟨h1, o, h2⟩, fun _ => rfl⟩
    · exact ⟨fun h => absurd h (by decide), fun ⟨_, o, h3⟩ => absurd h3 (h2 o)⟩
  · exact ⟨fun h => absurd h (by decide), fun ⟨h, _⟩ => by rw [h1] at h; cases h⟩
theorem tlg_len {s : St} {tr : Tr} {l : List Pt} {b : Bool} (h : TLG s tr l b) : l.length ≤ 16 := by
  rcases h with ⟨h1, h⟩ | ⟨h1, rfl, rfl⟩
  · rcases h with ⟨rfl, o, h2, rfl⟩ | ⟨rfl, rfl, _⟩
    · obtain ⟨hh, _⟩ := h2
      simp only [headT, Bool.and_eq_true] at hh
      have := inB_true hh.1
      rw [List.length_take]
      omega
    · simp
  · simp
def TLP (w : World) (s : St) (tr : Tr) (e : Ending) (w' : World) : Prop := ∃ (v : Value) (l : List Pt) (b : Bool), e = .returned (.tuple #[v, .bool b]) ∧ TLG s tr l b ∧ Own encP 5 40 w.heap.size w' v l ∧ Below w.heap.size w w'
set_option maxHeartbeats 2000000 in
theorem clonePt_any (w : World) (A : Option Addr) (c : Nat) (xs : List Pt) (h : RdT encP 5 w A xs) (hc : xs.length ≤ c) (hm : c ≤ 9223372036854775807) (hn : xs.length ≤ 16) (hA : A = none → c = 0 ∧ xs = []) :
    Calls Tryz.prog 47 #[.slice A xs.length c] w fun e w' => ∃ v, e = .returned v ∧ Own encP 5 40 w.heap.size w' v xs ∧ Below w.heap.size w w' := by
  have q26 : ∀ (w : World) (a : Option Addr) (n c n' c' : Nat), (binOp .eql 36 (.slice a n c) (.slice none n' c')).run Tryz.prog w = .ok (.bool a.isNone) w := fun w a n c n' c' => Lib.run_eql_slice_nil w _ _ a n c n' c' Tryz.underlying36
  rcases A with _ | ad
  · obtain ⟨rfl, rfl⟩ := hA rfl
    go_enter Tryz.func47, Tryz.ntmps47
    go_wp2_with fail
    --S1
    go_ret
    exact ⟨_, rfl, Own.nil, Below.refl _ _⟩
  · have HR := Lib.hid h
    have K1 := Lib.hid (And.intro (show (([] : List Pt).length + xs.length) * 40 ≤ 140737488355328 by simp; omega) (show ([] : List Pt).length + xs.length ≤ maxLen by simp; unfold maxLen; omega))
    have HE := Lib.hid (show Own encP 5 40 w.heap.size (w.alloc (.cells #[] 40)) (.slice (some ⟨w.heap.size, 0, none⟩) 0 0) ([] : List Pt) from Own.empty (Nat.le_refl _))
    have HRa := Lib.hid (h.below ((Below.refl _ _).alloc (Nat.le_refl _) (.cells #[] 40)))
    have HBa := Lib.hid (below_alloc (Below.refl w.heap.size w) (.cells #[] 40))
    clear h hA
    go_enter Tryz.func47, Tryz.ntmps47
    go_wp2_with (at_builtin; refine wpList_app (ys := (xs : List Pt)) elP rfl _ _ rfl (by rfl) HE.out (by rfl) rfl HRa.out oneP K1.out.1 K1.out.2 HBa.out.size ?_; intro v1 w4 ownv1 grv1 atv1)
    go_ret
    exact ⟨_, rfl, by simpa using ownv1, below_grown HBa.out HE.out grv1⟩
set_option maxHeartbeats 4000000 in
theorem treeLeaves_any (w : World) (x : SA) (s : St) (tr : Tr) (h : SRd w x s) (mG : x.nG ≤ 1048576) (mD : x.nD ≤ 1048576) (hz : ∀ r ∈ s.rows, r.size ≤ 9223372036854775807) (hM : MaxAt w) (hT : TenAt w) (hE : ErrAt w) :
    Calls Tryz.prog 17 #[x.v s.txg s.keep s.same, tr.v] w (TLP w s tr) := by
  have HX := Lib.hid h
  have IO := Lib.hid (fun W (hB : Below w.heap.size w W) => storeOk_any W x s (HX.out.below hB) mG mD)
  have hnR := h.lR
  have LB := Lib.hid (And.intro hM (And.intro hT hE))
  have HLV := Lib.hid (fun W sb v1 v2 v4 v5 v6 v7 (hS : BoxAt W sb #[.slice x.R x.nR x.cR, v1, v2, .int .i64 s.txg, v4, v5, v6, v7] 38) (hB : Below w.heap.size w W) h64 h0 => leaves_any W sb x.R x.nR x.cR v1 v2 v4 v5 v6 v7 s.txg s.rows tr hS (HX.out.rows.below hB) HX.out.lR h64 hz h0 (LB.out.1.below hB) (LB.out.2.1.below hB) (LB.out.2.2.below hB))
  have HNO := Lib.hid (fun (hs : storeB s = false) => (show TLG s tr [] false from .inr ⟨hs, rfl, rfl⟩))
  have HYE := Lib.hid (fun l b (hs : storeB s = true) hl => (show TLG s tr l b from .inl ⟨hs, hl⟩))
  have H64 := Lib.hid (fun (hs : storeB s = true) => And.intro (store_rows hs) (store_txg hs))
  clear h HX hM hT hE
  cases hs : storeB s
  · replace HNO := Lib.hid (HNO.out hs)
    rw [hs] at IO
    clear hs HYE H64 HLV
    unfold TLP
    generalize TLG s tr = P at *
    obtain ⟨⟨ra, rb, rs, ru, rl⟩, dep, many⟩ := tr
    obtain ⟨R, nR, cR, A, nA, cA, B, nB, cB, G, nG, cG, D, nD, cD⟩ := x
    obtain ⟨rows, refs, last, txg, gone, keep, dead, same⟩ := s
    unfold SA.v Tr.v at *
    dsimp only at *
    have BS := Lib.hid ((box_new w #[.slice R nR cR, .slice A nA cA, .slice B nB cB, .int .i64 txg, .slice G nG cG, .int .i64 keep, .slice D nD cD, .bool same] 38).alloc (.cells #[.int .i64 ra, .int .i64 rb, .int .i64 rs, .int .i64 ru, .int .i64 rl, .int .i64 dep, .int .i64 many] 42))
    have BT := box_new (w.alloc (.cells #[.slice R nR cR, .slice A nA cA, .slice B nB cB, .int .i64 txg, .slice G nG cG, .int .i64 keep, .slice D nD cD, .bool same] 38)) #[.int .i64 ra, .int .i64 rb, .int .i64 rs, .int .i64 ru, .int .i64 rl, .int .i64 dep, .int .i64 many] 42
    rw [World.size_alloc] at BT
    replace BT := Lib.hid BT
    have HBa := Lib.hid (below_alloc (below_alloc (Below.refl w.heap.size w) (.cells #[.slice R nR cR, .slice A nA cA, .slice B nB cB, .int .i64 txg, .slice G nG cG, .int .i64 keep, .slice D nD cD, .bool same] 38)) (.cells #[.int .i64 ra, .int .i64 rb, .int .i64 rs, .int .i64 ru, .int .i64 rl, .int .i64 dep, .int .i64 many] 42))
    go_enter Tryz.func17, Tryz.ntmps17
    go_wp2_with fail
    refine Calls.mono (IO.out _ HBa.out) ?_
    rintro e w2 ⟨rfl, hB⟩
    have HB2 := Lib.hid (below_below HBa.out hB)
    clear hB
    go_wp2_with fail
    go_ret2
    exact ⟨_, [], false, rfl, HNO.out, Own.nil, HB2.out⟩
  · replace HYE := Lib.hid (fun l b => HYE.out l b hs)
    obtain ⟨h64, h0⟩ := H64.out hs
    rw [hs] at IO
    replace HLV := Lib.hid (fun W sb v1 v2 v4 v5 v6 v7 hS hB => HLV.out W sb v1 v2 v4 v5 v6 v7 hS hB (by omega) h0)
    clear hs HNO H64 h64 h0 hnR
    unfold TLP
    unfold LvsP at HLV
    generalize TLG s tr = P at *
    generalize LvsG s.rows s.txg tr = P2 at *
    obtain ⟨⟨ra, rb, rs, ru, rl⟩, dep, many⟩ := tr
    obtain ⟨R, nR, cR, A, nA, cA, B, nB, cB, G, nG, cG, D, nD, cD⟩ := x
    obtain ⟨rows, refs, last, txg, gone, keep, dead, same⟩ := s
    unfold SA.v Tr.v at *
    dsimp only at *
    have BS := Lib.hid ((box_new w #[.slice R nR cR, .slice A nA cA, .slice B nB cB, .int .i64 txg, .slice G nG cG, .int .i64 keep, .slice D nD cD, .bool same] 38).alloc (.cells #[.int .i64 ra, .int .i64 rb, .int .i64 rs, .int .i64 ru, .int .i64 rl, .int .i64 dep, .int .i64 many] 42))
    have BT := box_new (w.alloc (.cells #[.slice R nR cR, .slice A nA cA, .slice B nB cB, .int .i64 txg, .slice G nG cG, .int .i64 keep, .slice D nD cD, .bool same] 38)) #[.int .i64 ra, .int .i64 rb, .int .i64 rs, .int .i64 ru, .int .i64 rl, .int .i64 dep, .int .i64 many] 42
    rw [World.size_alloc] at BT
    replace BT := Lib.hid BT
    have HBa := Lib.hid (below_alloc (below_alloc (Below.refl w.heap.size w) (.cells #[.slice R nR cR, .slice A nA cA, .slice B nB cB, .int .i64 txg, .slice G nG cG, .int .i64 keep, .slice D nD cD, .bool same] 38)) (.cells #[.int .i64 ra, .int .i64 rb, .int .i64 rs, .int .i64 ru, .int .i64 rl, .int .i64 dep, .int .i64 many] 42))
    go_enter Tryz.func17, Tryz.ntmps17
    go_wp2_with fail
    refine Calls.mono (IO.out _ HBa.out) ?_
    rintro e w2 ⟨rfl, hB⟩
    have HB2 := Lib.hid (below_below HBa.out hB)
    have BS2 := Lib.hid (BS.out.below hB)
    have BT2 := Lib.hid (BT.out.below hB)
    have bt2 := BT2.out.cell
    have hl2 := BT2.out.lt
    clear hB BS BT IO HBa
    go_wp2_with fail
    refine Calls.mono (HLV.out _ _ _ _ _ _ _ _ BS2.out HB2.out) ?_
    rintro e w3 ⟨A3, c3, l, b, rfl, hG, hr, hc, hm, hA, hn, hB⟩
    have HB3 := Lib.hid (below_below HB2.out hB)
    have HG := Lib.hid hG
    have HCL := Lib.hid (clonePt_any w3 A3 c3 l hr hc hm hn hA)
    clear hB bt2 hl2 BS2 BT2 hG hr hc hm hA hn HLV
    go_wp2_with fail
    refine Calls.mono HCL.out ?_
    rintro e w4 ⟨v, rfl, hO, hB⟩
    have HO := Lib.hid hO
    have HB4 := Lib.hid (below_below HB3.out hB)
    clear hB hO HCL
    go_wp2_with fail
    go_ret2
    exact ⟨v, l, b, rfl, HYE.out l b HG.out, own_lowerP HO.out HB3.out.size, HB4.out⟩
def OkP (w : World) (s : St) (tr : Tr) (e : Ending) (w' : World) : Prop := ∃ b, e = .returned (.bool b) ∧ (b = true ↔ (storeB s = true ∧ ∃ out, TrOk s.rows s.txg tr out)) ∧ Below w.heap.size w w'
theorem okP_one {P : Prop} {b b' : Bool} (h : b = true ↔ P) (h' : b' = true ↔ P) : b = b' := by
  cases b <;> cases b' <;> simp_all
set_option maxHeartbeats 4000000 in
theorem treeOk_any (w : World) (x : SA) (s : St) (tr : Tr) (h : SRd w x s) (mG : x.nG ≤ 1048576) (mD : x.nD ≤ 1048576) (hz : ∀ r ∈ s.rows, r.size ≤ 9223372036854775807) (hM : MaxAt w) (hT : TenAt w) (hE : ErrAt w) :
    Calls Tryz.prog 28 #[x.v s.txg s.keep s.same, tr.v] w (OkP w s tr) := by
  have HX := Lib.hid h
  have LB := Lib.hid (And.intro hM (And.intro hT hE))
  have HTL := Lib.hid (fun W (hB : Below w.heap.size w W) => treeLeaves_any W x s tr (HX.out.below hB) mG mD hz (LB.out.1.below hB) (LB.out.2.1.below hB) (LB.out.2.2.below hB))
  have HOK := Lib.hid (fun l b => @tlg_ok s tr l b)
  clear h HX hM hT hE LB hz
  unfold OkP
  unfold TLP at HTL
  generalize (storeB s = true ∧ ∃ out, TrOk s.rows s.txg tr out) = P2 at *
  generalize TLG s tr = P at *
  obtain ⟨⟨ra, rb, rs, ru, rl⟩, dep, many⟩ := tr
  obtain ⟨R, nR, cR, A, nA, cA, B, nB, cB, G, nG, cG, D, nD, cD⟩ := x
  obtain ⟨rows, refs, last, txg, gone, keep, dead, same⟩ := s
  unfold SA.v Tr.v at *
  dsimp only at *
  have BS := Lib.hid ((box_new w #[.slice R nR cR, .slice A nA cA, .slice B nB cB, .int .i64 txg, .slice G nG cG, .int .i64 keep, .slice D nD cD, .bool same] 38).alloc (.cells #[.int .i64 ra, .int .i64 rb, .int .i64 rs, .int .i64 ru, .int .i64 rl, .int .i64 dep, .int .i64 many] 42))
  have BT := box_new (w.alloc (.cells #[.slice R nR cR, .slice A nA cA, .slice B nB cB, .int .i64 txg, .slice G nG cG, .int .i64 keep, .slice D nD cD, .bool same] 38)) #[.int .i64 ra, .int .i64 rb, .int .i64 rs, .int .i64 ru, .int .i64 rl, .int .i64 dep, .int .i64 many] 42
  rw [World.size_alloc] at BT
  replace BT := Lib.hid BT
  have HBa := Lib.hid (below_alloc (below_alloc (Below.refl w.heap.size w) (.cells #[.slice R nR cR, .slice A nA cA, .slice B nB cB, .int .i64 txg, .slice G nG cG, .int .i64 keep, .slice D nD cD, .bool same] 38)) (.cells #[.int .i64 ra, .int .i64 rb, .int .i64 rs, .int .i64 ru, .int .i64 rl, .int .i64 dep, .int .i64 many] 42))
  go_enter Tryz.func28, Tryz.ntmps28
  go_wp2_with fail
  refine Calls.mono (HTL.out _ HBa.out) ?_
  rintro e w2 ⟨v, l, b, rfl, hG, hO, hB⟩
  have HB2 := Lib.hid (below_below HBa.out hB)
  have HG := Lib.hid (HOK.out l b hG)
  clear hB hG hO
  go_wp2_with fail
  go_ret
  exact ⟨b, rfl, HG.out, HB2.out⟩
set_option maxHeartbeats 4000000 in
theorem specTreeOk_any (w : World) (x : SA) (s : St) (tr : Tr) (h : SRd w x s) (mG : x.nG ≤ 1048576) (mD : x.nD ≤ 1048576) (hz : ∀ r ∈ s.rows, r.size ≤ 9223372036854775807) :
    Calls Tryz.prog 27 #[x.v s.txg s.keep s.same, tr.v] w (OkP w s tr) := by
  have HX := Lib.hid h
  have IO := Lib.hid (fun W (hB : Below w.heap.size w W) => specStoreOk_any W x s (HX.out.below hB) mG mD)
  have hnR := h.lR
  have HL8 := Lib.hid (fun W (hB : Below w.heap.size w W) h64 h0 => l8Ok_any W x.R x.nR x.cR x.A x.B x.G x.D x.nA x.cA x.nB x.cB x.nG x.cG x.nD x.cD s.txg s.keep s.same s.rows tr (HX.out.rows.below hB) HX.out.lR h64 hz h0)
  have H64 := Lib.hid (fun (hs : storeB s = true) => And.intro (store_rows hs) (store_txg hs))
  clear h HX
  unfold OkP
  cases hs : storeB s
  · rw [hs] at IO
    clear hs H64 HL8
    generalize (∃ out, TrOk s.rows s.txg tr out) = P2 at *
    obtain ⟨⟨ra, rb, rs, ru, rl⟩, dep, many⟩ := tr
    obtain ⟨R, nR, cR, A, nA, cA, B, nB, cB, G, nG, cG, D, nD, cD⟩ := x
    obtain ⟨rows, refs, last, txg, gone, keep, dead, same⟩ := s
    unfold SA.v Tr.v at *
    dsimp only at *
    have BS := Lib.hid ((box_new w #[.slice R nR cR, .slice A nA cA, .slice B nB cB, .int .i64 txg, .slice G nG cG, .int .i64 keep, .slice D nD cD, .bool same] 38).alloc (.cells #[.int .i64 ra, .int .i64 rb, .int .i64 rs, .int .i64 ru, .int .i64 rl, .int .i64 dep, .int .i64 many] 42))
    have BT := box_new (w.alloc (.cells #[.slice R nR cR, .slice A nA cA, .slice B nB cB, .int .i64 txg, .slice G nG cG, .int .i64 keep, .slice D nD cD, .bool same] 38)) #[.int .i64 ra, .int .i64 rb, .int .i64 rs, .int .i64 ru, .int .i64 rl, .int .i64 dep, .int .i64 many] 42
    rw [World.size_alloc] at BT
    replace BT := Lib.hid BT
    have HBa := Lib.hid (below_alloc (below_alloc (Below.refl w.heap.size w) (.cells #[.slice R nR cR, .slice A nA cA, .slice B nB cB, .int .i64 txg, .slice G nG cG, .int .i64 keep, .slice D nD cD, .bool same] 38)) (.cells #[.int .i64 ra, .int .i64 rb, .int .i64 rs, .int .i64 ru, .int .i64 rl, .int .i64 dep, .int .i64 many] 42))
    go_enter Tryz.func27, Tryz.ntmps27
    go_wp2_with fail
    refine Calls.mono (IO.out _ HBa.out) ?_
    rintro e w2 ⟨rfl, hB⟩
    have HB2 := Lib.hid (below_below HBa.out hB)
    clear hB
    go_wp2_with fail
    go_ret
    exact ⟨false, rfl, by simp, HB2.out⟩
  · obtain ⟨h64, h0⟩ := H64.out hs
    rw [hs] at IO
    replace HL8 := Lib.hid (fun W hB => HL8.out W hB (by omega) h0)
    clear hs H64 h64 h0 hnR
    generalize (∃ out, TrOk s.rows s.txg tr out) = P2 at *
    obtain ⟨⟨ra, rb, rs, ru, rl⟩, dep, many⟩ := tr
    obtain ⟨R, nR, cR, A, nA, cA, B, nB, cB, G, nG, cG, D, nD, cD⟩ := x
    obtain ⟨rows, refs, last, txg, gone, keep, dead, same⟩ := s
    unfold SA.v Tr.v at *
    dsimp only at *
    have BS := Lib.hid ((box_new w #[.slice R nR cR, .slice A nA cA, .slice B nB cB, .int .i64 txg, .slice G nG cG, .int .i64 keep, .slice D nD cD, .bool same] 38).alloc (.cells #[.int .i64 ra, .int .i64 rb, .int .i64 rs, .int .i64 ru, .int .i64 rl, .int .i64 dep, .int .i64 many] 42))
    have BT := box_new (w.alloc (.cells #[.slice R nR cR, .slice A nA cA, .slice B nB cB, .int .i64 txg, .slice G nG cG, .int .i64 keep, .slice D nD cD, .bool same] 38)) #[.int .i64 ra, .int .i64 rb, .int .i64 rs, .int .i64 ru, .int .i64 rl, .int .i64 dep, .int .i64 many] 42
    rw [World.size_alloc] at BT
    replace BT := Lib.hid BT
    have HBa := Lib.hid (below_alloc (below_alloc (Below.refl w.heap.size w) (.cells #[.slice R nR cR, .slice A nA cA, .slice B nB cB, .int .i64 txg, .slice G nG cG, .int .i64 keep, .slice D nD cD, .bool same] 38)) (.cells #[.int .i64 ra, .int .i64 rb, .int .i64 rs, .int .i64 ru, .int .i64 rl, .int .i64 dep, .int .i64 many] 42))
    go_enter Tryz.func27, Tryz.ntmps27
    go_wp2_with fail
    refine Calls.mono (IO.out _ HBa.out) ?_
    rintro e w2 ⟨rfl, hB⟩
    have HB2 := Lib.hid (below_below HBa.out hB)
    have BS2 := Lib.hid (BS.out.below hB)
    have BT2 := Lib.hid (BT.out.below hB)
    have bt2 := BT2.out.cell
    have hl2 := BT2.out.lt
    have bs2 := BS2.out.cell
    have hs2 := BS2.out.lt
    clear hB BS BT IO HBa
    go_wp2_with fail
    refine Calls.mono (HL8.out _ HB2.out) ?_
    rintro e w3 ⟨b, rfl, hG, hB⟩
    have HG := Lib.hid hG
    have HB3 := Lib.hid (below_below HB2.out hB)
    clear hB hG bt2 hl2 bs2 hs2 BS2 BT2 HL8
    go_wp2_with fail
    go_ret
    exact ⟨b, rfl, by have := HG.out; simpa using this, HB3.out⟩
theorem take_own {w : World} {A : Option Addr} {xs : List Pt} {n : Nat} (h : RdT encP 5 w A xs) : RdT encP 5 w A (xs.take n) := rd_takeL h n
theorem tr_many {rows : List ByteArray} {top : Int} {tr : Tr} {out : List Pt} (h : TrOk rows top tr out) : 0 ≤ tr.many ∧ tr.many ≤ out.length ∧ tr.many ≤ 16 ∧ ptrB tr.root = true ∧ tr.depth = (tr.depth.toNat : Int) ∧ tr.depth.toNat ≤ 2 ∧ out.length ≤ 16 := by
  obtain ⟨⟨ra, rb, rs, ru, rl⟩, dep, many⟩ := tr
  obtain ⟨hh, hlv, _⟩ := h
  have hh' := hh
  simp only [headT, Bool.and_eq_true] at hh
  obtain ⟨h1, h2, h3, _⟩ := hh
  have hdd := depthB_inL many
  have hde : dep = depthB many := eq_of_beq h2
  have hm := inB_true h1
  dsimp only at *
  have hdn : dep = (dep.toNat : Int) := by omega
  have h2' : ((dep.toNat : Int) == depthB many) = true := by rw [← hdn]; exact h2
  have hle := many_le h1 h2' hlv
  have hlen := lvOk_len hlv
  refine ⟨hm.1, hle, hm.2, h3, hdn, by omega, ?_⟩
  rcases (show dep.toNat = 0 ∨ dep.toNat = 1 ∨ dep.toNat = 2 by omega) with e | e | e <;> rw [e] at hlen <;> simp at hlen <;> omega
set_option maxHeartbeats 4000000 in
theorem specTreeLeaves_any (w : World) (x : SA) (s : St) (tr : Tr) (h : SRd w x s) (mG : x.nG ≤ 1048576) (mD : x.nD ≤ 1048576) (hz : ∀ r ∈ s.rows, r.size ≤ 9223372036854775807) :
    Calls Tryz.prog 16 #[x.v s.txg s.keep s.same, tr.v] w (TLP w s tr) := by
  have HX := Lib.hid h
  have HOK := Lib.hid (fun W (hB : Below w.heap.size w W) => specTreeOk_any W x s tr (HX.out.below hB) mG mD hz)
  have HL8 := Lib.hid (fun W (hB : Below w.heap.size w W) (d : Nat) h64 hp h0 hd => l8Leaves_any W x.R x.nR x.cR x.A x.B x.G x.D x.nA x.cA x.nB x.cB x.nG x.cG x.nD x.cD s.txg s.keep s.same s.rows tr.root d tr.many (HX.out.rows.below hB) HX.out.lR h64 hz hp h0 hd)
  have hnR := h.lR
  have HNO := Lib.hid (fun (hn : ¬ (storeB s = true ∧ ∃ out, TrOk s.rows s.txg tr out)) => (show TLG s tr [] false from by
    cases hs : storeB s
    · exact .inr ⟨hs, rfl, rfl⟩
    · exact .inl ⟨hs, .inr ⟨rfl, rfl, fun out ho => hn ⟨hs, out, ho⟩⟩⟩))
  unfold OkP at HOK
  by_cases hok : storeB s = true ∧ ∃ out, TrOk s.rows s.txg tr out
  · obtain ⟨hs, out, ho⟩ := hok
    obtain ⟨m0, m1, m16, hp, hdn, hd2, ho16⟩ := tr_many ho
    have HYE := Lib.hid (show TLG s tr (out.take tr.many.toNat) true from .inl ⟨hs, .inl ⟨rfl, out, ho, rfl⟩⟩)
    have HLU := Lib.hid (fun l (hl : LvOk s.rows s.txg tr.depth.toNat [tr.root] l) => lvOk_one hl ho.2.1)
    have HLN := Lib.hid (fun (hl : ∀ o, ¬ LvOk s.rows s.txg tr.depth.toNat [tr.root] o) => hl out ho.2.1)
    replace HL8 := Lib.hid (fun W hB => HL8.out W hB tr.depth.toNat (by have := store_rows hs; omega) hp (store_txg hs) hd2)
    replace HOK := Lib.hid (fun W hB => (HOK.out W hB).mono (fun e w' ⟨b, he, hb, hB'⟩ => (show e = Ending.returned (.bool true) ∧ Below W.heap.size W w' from ⟨by rw [he, hb.2 ⟨hs, out, ho⟩], hB'⟩)))
    clear h HX HNO hnR ho hp hs
    unfold TLP
    unfold LvP at HL8
    generalize TLG s tr = P at *
    obtain ⟨⟨ra, rb, rs, ru, rl⟩, dep, many⟩ := tr
    dsimp only at *
    obtain ⟨d, rfl⟩ : ∃ d : Nat, dep = (d : Int) := ⟨dep.toNat, hdn⟩
    obtain ⟨mn, rfl⟩ : ∃ mn : Nat, many = (mn : Int) := ⟨many.toNat, by omega⟩
    rw [Int.toNat_natCast] at HL8 HLU HLN HYE
    generalize LvOk s.rows s.txg d [⟨ra, rb, rs, ru, rl⟩] = P2 at *
    obtain ⟨R, nR, cR, A, nA, cA, B, nB, cB, G, nG, cG, D, nD, cD⟩ := x
    obtain ⟨rows, refs, last, txg, gone, keep, dead, same⟩ := s
    unfold SA.v Tr.v at *
    dsimp only at *
    have BS := Lib.hid ((box_new w #[.slice R nR cR, .slice A nA cA, .slice B nB cB, .int .i64 txg, .slice G nG cG, .int .i64 keep, .slice D nD cD, .bool same] 38).alloc (.cells #[.int .i64 ra, .int .i64 rb, .int .i64 rs, .int .i64 ru, .int .i64 rl, .int .i64 (d : Int), .int .i64 (mn : Int)] 42))
    have BT := box_new (w.alloc (.cells #[.slice R nR cR, .slice A nA cA, .slice B nB cB, .int .i64 txg, .slice G nG cG, .int .i64 keep, .slice D nD cD, .bool same] 38)) #[.int .i64 ra, .int .i64 rb, .int .i64 rs, .int .i64 ru, .int .i64 rl, .int .i64 (d : Int), .int .i64 (mn : Int)] 42
    rw [World.size_alloc] at BT
    replace BT := Lib.hid BT
    have HBa := Lib.hid (below_alloc (below_alloc (Below.refl w.heap.size w) (.cells #[.slice R nR cR, .slice A nA cA, .slice B nB cB, .int .i64 txg, .slice G nG cG, .int .i64 keep, .slice D nD cD, .bool same] 38)) (.cells #[.int .i64 ra, .int .i64 rb, .int .i64 rs, .int .i64 ru, .int .i64 rl, .int .i64 (d : Int), .int .i64 (mn : Int)] 42))
    clear hdn hd2
    go_enter Tryz.func16, Tryz.ntmps16
    go_wp2_with fail
    refine Calls.mono (HOK.out _ HBa.out) ?_
    rintro e w2 ⟨rfl, hB⟩
    have HB2 := Lib.hid (below_below HBa.out hB)
    have BS2 := Lib.hid (BS.out.below hB)
    have BT2 := Lib.hid (BT.out.below hB)
    have bt2 := BT2.out.cell
    have hl2 := BT2.out.lt
    have bs2 := BS2.out.cell
    have hs2 := BS2.out.lt
    clear hB BS BT HBa HOK
    go_wp2_with fail
    refine Calls.mono (HL8.out _ HB2.out) ?_
    rintro e w3 ⟨v, l, b, rfl, hG1, hG2, hB⟩
    cases b
    · exact (HLN.out (hG2 rfl)).elim
    obtain ⟨hl, hpt, h16, hO⟩ := hG1 rfl
    obtain rfl := HLU.out l hl
    obtain ⟨A9, c9, rfl, q1, q2, _, hrd⟩ := hO.form
    have HB3 := Lib.hid (below_below HB2.out hB)
    have BT3 := Lib.hid (BT2.out.below hB)
    have bt3 : w3.cell? ⟨w.heap.size + 1, 6, none⟩ = some (.int .i64 (mn : Int)) := BT3.out.cell 6
    have hl3 := BT3.out.lt
    have htl : (l.take mn).length = mn := by rw [List.length_take]; omega
    have hmc : mn ≤ c9 := by omega
    have hmc2 : (mn : Int) ≤ (c9 : Int) := by omega
    have K1 := Lib.hid (And.intro (show (([] : List Pt).length + (l.take mn).length) * 40 ≤ 140737488355328 by simp; omega) (show ([] : List Pt).length + (l.take mn).length ≤ maxLen by simp; unfold maxLen; omega))
    have HE := Lib.hid (show Own encP 5 40 w3.heap.size (w3.alloc (.cells #[] 40)) (.slice (some ⟨w3.heap.size, 0, none⟩) 0 0) ([] : List Pt) from Own.empty (Nat.le_refl _))
    have HRa := Lib.hid ((rd_takeL hrd mn).below ((Below.refl _ _).alloc (Nat.le_refl _) (.cells #[] 40)))
    have HBe := Lib.hid (below_alloc (Below.refl w3.heap.size w3) (.cells #[] 40))
    have HTL := Lib.hid (show mn = (l.take mn).length from htl.symm)
    clear hB hG1 hG2 hl hpt hO hrd bt2 hl2 bs2 hs2 BS2 BT2 HL8 HLU HLN htl
    generalize hn9 : l.length = n9 at *
    clear hn9
    go_wp2_with (at_builtin; refine wpList_app (ys := (l.take mn : List Pt)) elP rfl _ _ rfl (by rfl) HE.out (by rfl) HTL.out HRa.out oneP K1.out.1 K1.out.2 HBe.out.size ?_; intro v1 w4 ownv1 grv1 atv1)
    go_ret2
    exact ⟨_, l.take mn, true, rfl, HYE.out, own_lowerP (by simpa using ownv1) HB3.out.size, below_below HB3.out (below_grown HBe.out HE.out grv1)⟩
  · replace HNO := Lib.hid (HNO.out hok)
    replace HOK := Lib.hid (fun W hB => (HOK.out W hB).mono (fun e w' ⟨b, he, hb, hB'⟩ => (show e = Ending.returned (.bool false) ∧ Below W.heap.size W w' from ⟨by
      have hbf : b = false := by
        cases b
        · rfl
        · exact absurd (hb.1 rfl) hok
      rw [he, hbf], hB'⟩)))
    clear h HX HL8 hnR hok
    unfold TLP
    generalize TLG s tr = P at *
    obtain ⟨⟨ra, rb, rs, ru, rl⟩, dep, many⟩ := tr
    obtain ⟨R, nR, cR, A, nA, cA, B, nB, cB, G, nG, cG, D, nD, cD⟩ := x
    obtain ⟨rows, refs, last, txg, gone, keep, dead, same⟩ := s
    unfold SA.v Tr.v at *
    dsimp only at *
    have BS := Lib.hid ((box_new w #[.slice R nR cR, .slice A nA cA, .slice B nB cB, .int .i64 txg, .slice G nG cG, .int .i64 keep, .slice D nD cD, .bool same] 38).alloc (.cells #[.int .i64 ra, .int .i64 rb, .int .i64 rs, .int .i64 ru, .int .i64 rl, .int .i64 dep, .int .i64 many] 42))
    have BT := box_new (w.alloc (.cells #[.slice R nR cR, .slice A nA cA, .slice B nB cB, .int .i64 txg, .slice G nG cG, .int .i64 keep, .slice D nD cD, .bool same] 38)) #[.int .i64 ra, .int .i64 rb, .int .i64 rs, .int .i64 ru, .int .i64 rl, .int .i64 dep, .int .i64 many] 42
    rw [World.size_alloc] at BT
    replace BT := Lib.hid BT
    have HBa := Lib.hid (below_alloc (below_alloc (Below.refl w.heap.size w) (.cells #[.slice R nR cR, .slice A nA cA, .slice B nB cB, .int .i64 txg, .slice G nG cG, .int .i64 keep, .slice D nD cD, .bool same] 38)) (.cells #[.int .i64 ra, .int .i64 rb, .int .i64 rs, .int .i64 ru, .int .i64 rl, .int .i64 dep, .int .i64 many] 42))
    go_enter Tryz.func16, Tryz.ntmps16
    go_wp2_with fail
    refine Calls.mono (HOK.out _ HBa.out) ?_
    rintro e w2 ⟨rfl, hB⟩
    have HB2 := Lib.hid (below_below HBa.out hB)
    clear hB
    go_wp2_with fail
    go_ret2
    exact ⟨_, [], false, rfl, HNO.out, Own.empty HB2.out.size, below_alloc HB2.out _⟩

end Go.Proofs.YtafadedacbjioaaGreatDoor

/- A tree that came in: opened; the laws' copies of it. -/
namespace Go.Proofs.YtafadedacbjioaaGreatDoor
open Go.RowKit
set_option maxRecDepth 100000
set_option linter.unusedVariables false

theorem toPtrT_any (p : Pt) (w : World) : Calls Tryz.prog 41 #[p.v] w fun e w' => e = .returned p.v ∧ Below w.heap.size w w' := by
  obtain ⟨a, b, s, u, l⟩ := p
  unfold Pt.v
  dsimp only
  go_enter Tryz.func41, Tryz.ntmps41
  go_wp2_with fail
  refine bodyPost_ret (v := .agg #[.int .i64 a, .int .i64 b, .int .i64 s, .int .i64 u, .int .i64 l]) (by simp [results, Tryz.results41, go_sem]) rfl ⟨rfl, by (repeat (first | assumption | exact Below.refl _ _ | refine below_alloc ?_ _ | refine Below.drew ?_ | refine below_drewN ?_ _ | refine below_set ?_ (by first | exact Nat.le_refl _ | omega | (simp; done) | (simp; omega)) _ | refine below_kp ?_ (by assumption) (by simp) | refine below_below ?_ (by assumption)))⟩

set_option maxHeartbeats 400000 in
theorem toTreeT_any (n : Tr) (w : World) : Calls Tryz.prog 13 #[n.v] w fun e w' => e = .returned n.v ∧ Below w.heap.size w w' := by
  have hp := Lib.hid (toPtrT_any n.root)
  obtain ⟨⟨a, b, z, u, l⟩, d, m⟩ := n
  unfold Tr.v
  unfold Pt.v at hp
  dsimp only at *
  go_enter Tryz.func13, Tryz.ntmps13
  go_wp2_with (go_at_call 41; refine (hp.out _).mono ?_; rintro e w4 ⟨rfl, hb4⟩; obtain ⟨c4, f4⟩ := bcell hb4)
  refine bodyPost_ret (v := .agg #[.int .i64 a, .int .i64 b, .int .i64 z, .int .i64 u, .int .i64 l, .int .i64 d, .int .i64 m]) (by simp [results, Tryz.results13, go_sem, c4]) rfl ⟨rfl, by (repeat (refine below_set ?_ (by dsimp only; omega) _)); (repeat (first | assumption | exact Below.refl _ _ | refine below_alloc ?_ _ | refine Below.drew ?_ | refine below_drewN ?_ _ | refine below_set ?_ (by first | exact Nat.le_refl _ | omega | (simp; done) | (simp; omega)) _ | refine below_kp ?_ (by assumption) (by simp) | refine below_below ?_ (by assumption)))⟩

section
open Go.ChangeShapes Go.WideShapes Go.ChangeAt
/-- A tree that came in. -/
theorem open_tree {H : Type} {enc : TypeId × Value → H} {W : World} {r : Reach} {b0 base : Nat} {v : Value} {d : DataW H} {p : List MemPlace} (hval : Value.okWide Tryz.prog W r b0 32 v) (h : DataW.Trod enc Tryz.prog W base (fun _ => true) true 32 v d p) :
    ∃ n : Tr, v = n.v := by
  have c1 : Tryz.prog.cellsOf 3 = 1 := by kernel_rfl
  have c5 : Tryz.prog.cellsOf 30 = 5 := by kernel_rfl
  have c7 : Tryz.prog.cellsOf 32 = 7 := by kernel_rfl
  obtain ⟨⟨cs⟩, rfl, hsz⟩ := okWide_struct Tryz.underlying32 hval
  obtain ⟨fuel, hf⟩ := h
  have hsz' : cs.length = 7 := by rw [← c7]; exact hsz
  match cs, hsz' with
  | [x3, x4, x5, x6, x7, x8, x9], _ =>
    replace hf : DataW.trod enc Tryz.prog W base (fun _ => true) true fuel 32 [x3, x4, x5, x6, x7, x8, x9] = some (d, p) := hf
    obtain ⟨m0, z0, s0⟩ := trod_at Tryz.underlying32 hf 0 rfl rfl rfl c5 rfl
    obtain ⟨m1, z1, s1⟩ := trod_at Tryz.underlying32 hf 1 rfl rfl rfl c1 rfl
    obtain ⟨m2, z2, s2⟩ := trod_at Tryz.underlying32 hf 2 rfl rfl rfl c1 rfl
    obtain ⟨k0, u0, p0⟩ := trod_at Tryz.underlying30 s0 0 rfl rfl rfl c1 rfl
    obtain ⟨k1, u1, p1⟩ := trod_at Tryz.underlying30 s0 1 rfl rfl rfl c1 rfl
    obtain ⟨k2, u2, p2⟩ := trod_at Tryz.underlying30 s0 2 rfl rfl rfl c1 rfl
    obtain ⟨k3, u3, p3⟩ := trod_at Tryz.underlying30 s0 3 rfl rfl rfl c1 rfl
    obtain ⟨k4, u4, p4⟩ := trod_at Tryz.underlying30 s0 4 rfl rfl rfl c1 rfl
    obtain ⟨a3, e3, _, _⟩ := DataW.trod_int Tryz.underlying3 p0
    obtain ⟨a4, e4, _, _⟩ := DataW.trod_int Tryz.underlying3 p1
    obtain ⟨a5, e5, _, _⟩ := DataW.trod_int Tryz.underlying3 p2
    obtain ⟨a6, e6, _, _⟩ := DataW.trod_int Tryz.underlying3 p3
    obtain ⟨a7, e7, _, _⟩ := DataW.trod_int Tryz.underlying3 p4
    obtain ⟨a8, e8, _, _⟩ := DataW.trod_int Tryz.underlying3 s1
    obtain ⟨a9, e9, _, _⟩ := DataW.trod_int Tryz.underlying3 s2
    replace e3 : [x3] = [Value.int .i64 a3] := e3
    replace e4 : [x4] = [Value.int .i64 a4] := e4
    replace e5 : [x5] = [Value.int .i64 a5] := e5
    replace e6 : [x6] = [Value.int .i64 a6] := e6
    replace e7 : [x7] = [Value.int .i64 a7] := e7
    replace e8 : [x8] = [Value.int .i64 a8] := e8
    replace e9 : [x9] = [Value.int .i64 a9] := e9
    cases e3; cases e4; cases e5; cases e6; cases e7; cases e8; cases e9
    exact ⟨⟨⟨a3, a4, a5, a6, a7⟩, a8, a9⟩, rfl⟩
end

end Go.Proofs.YtafadedacbjioaaGreatDoor

/- A store handed in: its size, its copy; the argument opened. -/
namespace Go.Proofs.YtafadedacbjioaaGreatDoor
open Go.RowKit
set_option maxRecDepth 100000
set_option linter.unusedVariables false
set_option linter.unusedSimpArgs false

def SzSt (w : World) (x : SA) (e : Ending) (w' : World) : Prop := ∃ r : Int, e = .returned (.int .i64 r) ∧ (0 ≤ r → x.nR ≤ 1048576 ∧ x.nA ≤ 1048576 ∧ x.nB ≤ 1048576 ∧ x.nG ≤ 1048576 ∧ x.nD ≤ 1048576) ∧ Below w.heap.size w w'

def SzSq (w : World) (left : Int) (n m : Nat) (e : Ending) (w' : World) : Prop := ∃ r : Int, e = .returned (.int .i64 r) ∧ -1 ≤ r ∧ r ≤ left ∧ (0 ≤ r → (n : Int) ≤ left ∧ (m : Int) ≤ left) ∧ Below w.heap.size w w'
theorem szSpace_in (w : World) (A B : Option Addr) (n c m d : Nat) (left : Int) (hn : n ≤ 9223372036854775807) (hm : m ≤ 9223372036854775807) (h0 : 0 ≤ left) (h1 : left ≤ 1048576) :
    Calls Tryz.prog 36 #[.agg #[.slice A n c, .slice B m d], .int .i64 left] w (SzSq w left n m) := by
  have HBa := Lib.hid (below_alloc (Below.refl w.heap.size w) (.cells #[.slice A n c, .slice B m d] 25))
  go_enter Tryz.func36, Tryz.ntmps36
  go_wp2_with fail
  refine Calls.mono (szIntS_any _ A n c left hn h0 h1) ?_
  rintro e w' ⟨r, rfl, hr0, hr1, hr2, rfl⟩
  by_cases hneg : r < 0
  · go_wp2_with fail
    go_ret
    exact ⟨-1, rfl, by omega, by omega, by omega, HBa.out⟩
  · go_wp2_with fail
    refine Calls.mono (szIntS_any _ B m d r hm (by omega) (by omega)) ?_
    rintro e w' ⟨r2, rfl, hs0, hs1, hs2, rfl⟩
    by_cases hneg2 : r2 < 0
    · go_wp2_with fail
      go_ret
      exact ⟨-1, rfl, by omega, by omega, by omega, HBa.out⟩
    · go_wp2_with fail
      go_ret
      exact ⟨r2, rfl, by omega, by omega, fun _ => ⟨by omega, by omega⟩, HBa.out⟩

set_option maxHeartbeats 4000000 in
theorem szStore_any (w : World) (x : SA) (s : St) (h : SRd w x s) (hz : ∀ r ∈ s.rows, r.size ≤ 9223372036854775807) :
    Calls Tryz.prog 10 #[x.v s.txg s.keep s.same, .int .i64 1048576] w (SzSt w x) := by
  have HX := Lib.hid h
  have E1 := Lib.hid (fun W (hB : Below w.heap.size w W) => (by have := szStringS_any W x.R x.cR s.rows 1048576 (HX.out.rows.below hB) (by rw [HX.out.lR]; exact HX.out.hR) HX.out.mR hz (by omega) (by omega); rw [HX.out.lR] at this; exact this : Calls Tryz.prog 35 #[.slice x.R x.nR x.cR, .int .i64 1048576] W (SzPostS W 1048576 (x.nR + (List.map (fun x => x.size) s.rows).sum))))
  have mA : x.nA ≤ 9223372036854775807 := Nat.le_trans h.hA h.mA
  have mB : x.nB ≤ 9223372036854775807 := Nat.le_trans h.hB h.mB
  have mG : x.nG ≤ 9223372036854775807 := Nat.le_trans h.hG h.mG
  have mD : x.nD ≤ 9223372036854775807 := Nat.le_trans h.hD h.mD
  clear h HX
  generalize (List.map (fun x => x.size) s.rows).sum = tot at *
  obtain ⟨R, nR, cR, A, nA, cA, B, nB, cB, G, nG, cG, D, nD, cD⟩ := x
  unfold SA.v SzSt
  dsimp only at *
  have HBw := Lib.hid (below_alloc (Below.refl w.heap.size w) (.cells #[.slice R nR cR, .slice A nA cA, .slice B nB cB, .int .i64 s.txg, .slice G nG cG, .int .i64 s.keep, .slice D nD cD, .bool s.same] 28))
  go_enter Tryz.func10, Tryz.ntmps10
  go_wp2_with fail
  refine Calls.mono (E1.out _ HBw.out) ?_
  rintro e w1 ⟨r1, rfl, a1, b1, d1, hB⟩
  obtain ⟨c1, f1⟩ := bcell hB
  have hsz := hB.size
  simp only [World.size_alloc] at hsz
  have hx1 : w.heap.size < w1.heap.size := by omega
  have HB1 := Lib.hid (below_below HBw.out hB)
  clear hB hsz
  by_cases n1 : r1 < 0
  · go_wp2_with fail
    go_ret
    exact ⟨-1, rfl, by omega, HB1.out⟩
  go_wp2_with fail
  refine Calls.mono (szSpace_in _ A B nA cA nB cB r1 mA mB (by omega) (by omega)) ?_
  rintro e w2 ⟨r2, rfl, a2, b2, d2, hB⟩
  obtain ⟨c2, f2⟩ := bcell hB
  have hsz := hB.size
  have hx2 : w.heap.size < w2.heap.size := by omega
  have HB2 := Lib.hid (below_below HB1.out hB)
  clear hB hsz
  by_cases n2 : r2 < 0
  · go_wp2_with fail
    go_ret
    exact ⟨-1, rfl, by omega, HB2.out⟩
  go_wp2_with fail
  refine Calls.mono (szPtrS_any _ G nG cG r2 mG (by omega) (by omega)) ?_
  rintro e w3 ⟨r3, rfl, a3, b3, d3, rfl⟩
  by_cases n3 : r3 < 0
  · go_wp2_with fail
    go_ret
    exact ⟨-1, rfl, by omega, HB2.out⟩
  go_wp2_with fail
  refine Calls.mono (szPtrS_any _ D nD cD r3 mD (by omega) (by omega)) ?_
  rintro e w4 ⟨r4, rfl, a4, b4, d4, rfl⟩
  by_cases n4 : r4 < 0
  · go_wp2_with fail
    go_ret
    exact ⟨-1, rfl, by omega, HB2.out⟩
  go_wp2_with fail
  go_ret
  exact ⟨r4, rfl, fun _ => ⟨by omega, by omega, by omega, by omega, by omega⟩, HB2.out⟩

def SpOwn (w : World) (rs ls : List Int) (e : Ending) (w' : World) : Prop := ∃ A c B d, e = .returned (.agg #[.slice A rs.length c, .slice B ls.length d]) ∧ rs.length ≤ c ∧ c ≤ 9223372036854775807 ∧ ls.length ≤ d ∧ d ≤ 9223372036854775807 ∧ RdT encN 1 w' A rs ∧ RdT encN 1 w' B ls ∧ (∀ a, A = some a → w.heap.size ≤ a.block) ∧ (∀ a, B = some a → w.heap.size ≤ a.block) ∧ Below w.heap.size w w'

set_option maxHeartbeats 2000000 in
theorem toSpace_own (w : World) (A B : Option Addr) (c d : Nat) (rs ls : List Int) (h : RdT encN 1 w A rs) (g : RdT encN 1 w B ls) (hc : rs.length ≤ c) (hd : ls.length ≤ d) (hn : rs.length ≤ 1048576) (hm : ls.length ≤ 1048576) :
    Calls Tryz.prog 39 #[.agg #[.slice A rs.length c, .slice B ls.length d]] w (SpOwn w rs ls) := by
  have HR := Lib.hid h
  have HG := Lib.hid g
  clear h g
  go_enter Tryz.func39, Tryz.ntmps39
  go_wp2_with fail
  have HBw := Lib.hid (below_alloc (below_alloc (below_alloc (Below.refl w.heap.size w) (.cells #[.slice A rs.length c, .slice B ls.length d] 25)) (.cells #[.slice none 0 0, .slice none 0 0] 35)) (.cells #[.slice none 0 0, .slice none 0 0] 35))
  refine Calls.mono (toIntS_any _ A c rs (HR.out.below HBw.out) hc hn) ?_
  rintro e w1 ⟨v1, rfl, hO1, hB1⟩
  obtain ⟨A1, cap1, rfl, hc1, hm1, hge1, hR1⟩ := hO1.form
  have HB1 := Lib.hid (below_below HBw.out hB1)
  have HR1 := Lib.hid hR1
  have HG1 := Lib.hid hge1
  obtain ⟨c1, f1⟩ := bcell hB1
  have hz1 : w.heap.size + 1 + 1 < w1.heap.size := by have := hB1.size; simp at this; omega
  have hy1 : w.heap.size + 1 < w1.heap.size := by omega
  have hx1 : w.heap.size < w1.heap.size := by omega
  clear hB1 hO1 hR1 hge1
  go_wp2_with fail
  have HBs := Lib.hid (below_set HB1.out (p := ⟨w.heap.size + 1 + 1, 0, none⟩) (by dsimp only; omega) (.slice A1 rs.length cap1))
  have hS1 : (w1.setCell ⟨w.heap.size + 1 + 1, 0, none⟩ (.slice A1 rs.length cap1)).heap.size = w1.heap.size := World.size_setCell _ _ _
  refine Calls.mono (toIntS_any _ B d ls (HG.out.below HBs.out) hd hm) ?_
  rintro e w2 ⟨v2, rfl, hO2, hB2⟩
  obtain ⟨A2, cap2, rfl, hc2, hm2, hge2, hR2⟩ := hO2.form
  have HB2 := Lib.hid (below_below HBs.out hB2)
  have hz2 : w.heap.size + 1 + 1 < w2.heap.size := by have := hB2.size; rw [hS1] at this; omega
  have hy2 : w.heap.size + 1 < w2.heap.size := by omega
  have HR2 := Lib.hid hR2
  have HG2 := Lib.hid hge2
  have HK := Lib.hid (Kp.of_below hB2)
  obtain ⟨c2, f2⟩ := bcell hB2
  rw [hS1] at c2 f2
  clear hB2 hO2 hR2 hge2
  have k1 : Kp [w.heap.size + 1, w.heap.size + 1 + 1] w1 (w1.setCell ⟨w.heap.size + 1 + 1, 0, none⟩ (.slice A1 rs.length cap1)) := (Kp.refl _ _).setCell (.inl (by simp)) _
  have HK2 := Lib.hid (k1.trans (HK.out.all _))
  clear k1
  go_wp2_with fail
  have HKf := Lib.hid ((((Kp.refl [w.heap.size + 1, w.heap.size + 1 + 1] w2).setCell (p := ⟨w.heap.size + 1 + 1, 1, none⟩) (.inl (by simp)) (.slice A2 ls.length cap2)).setCell (p := ⟨w.heap.size + 1, 0, none⟩) (.inl (by simp)) (.slice A1 rs.length cap1)).setCell (p := ⟨w.heap.size + 1, 1, none⟩) (.inl (by simp)) (.slice A2 ls.length cap2))
  have HBf := Lib.hid (below_set (below_set (below_set HB2.out (p := ⟨w.heap.size + 1 + 1, 1, none⟩) (by dsimp only; omega) (.slice A2 ls.length cap2)) (p := ⟨w.heap.size + 1, 0, none⟩) (by dsimp only; omega) (.slice A1 rs.length cap1)) (p := ⟨w.heap.size + 1, 1, none⟩) (by dsimp only; omega) (.slice A2 ls.length cap2))
  have HRf := (HR1.out.kp (HK2.out.trans HKf.out) (fun _ a ha => by have := (HG1.out a ha).1; simp at this; simp; omega))
  have HRg := (HR2.out.kp HKf.out (fun _ a ha => by have := (HG2.out a ha).1; rw [hS1] at this; simp; omega))

  refine bodyPost_ret (v := .agg #[.slice A1 rs.length cap1, .slice A2 ls.length cap2]) (by simp [results, Tryz.results39, go_sem, c2, c1, hy1, hx1]) rfl ⟨A1, cap1, A2, cap2, rfl, hc1, hm1, hc2, hm2, HRf, HRg, fun a ha => by have := (HG1.out a ha).1; simp at this; omega, fun a ha => by have := (HG2.out a ha).1; rw [hS1] at this; omega, HBf.out⟩


/-- What a copy is: a store of its own, that reads alike. -/
def ToSt (w : World) (s : St) (e : Ending) (w' : World) : Prop := ∃ y : SA, e = .returned (y.v s.txg s.keep s.same) ∧ SRd w' y s ∧ Below w.heap.size w w'

set_option maxHeartbeats 8000000 in
theorem toStore_any (w : World) (x : SA) (s : St) (h : SRd w x s) (bR : x.nR ≤ 1048576) (bA : x.nA ≤ 1048576) (bB : x.nB ≤ 1048576) (bG : x.nG ≤ 1048576) (bD : x.nD ≤ 1048576) :
    Calls Tryz.prog 12 #[x.v s.txg s.keep s.same] w (ToSt w s) := by
  have HX := Lib.hid h
  have E1 := Lib.hid (fun W (hB : Below w.heap.size w W) => (by have := toStringS_any W x.R x.cR s.rows (HX.out.rows.below hB) (by rw [HX.out.lR]; exact HX.out.hR) (by rw [HX.out.lR]; exact bR); rw [HX.out.lR] at this; exact this : Calls Tryz.prog 38 #[.slice x.R x.nR x.cR] W (SPost W s.rows)))
  have E2 := Lib.hid (fun W (hB : Below w.heap.size w W) => (by have := toSpace_own W x.A x.B x.cA x.cB s.refs s.last (HX.out.refs.below hB) (HX.out.last.below hB) (by rw [HX.out.lA]; exact HX.out.hA) (by rw [HX.out.lB]; exact HX.out.hB) (by rw [HX.out.lA]; exact bA) (by rw [HX.out.lB]; exact bB); rw [HX.out.lA, HX.out.lB] at this; exact this : Calls Tryz.prog 39 #[.agg #[.slice x.A x.nA x.cA, .slice x.B x.nB x.cB]] W (SpOwn W s.refs s.last)))
  have E3 := Lib.hid (fun W (hB : Below w.heap.size w W) => (by have := toPtrS_any W x.G x.cG s.gone (HX.out.gone.below hB) (by rw [HX.out.lG]; exact HX.out.hG) (by rw [HX.out.lG]; exact bG); rw [HX.out.lG] at this; exact this : Calls Tryz.prog 40 #[.slice x.G x.nG x.cG] W (PPost W s.gone)))
  have E4 := Lib.hid (fun W (hB : Below w.heap.size w W) => (by have := toPtrS_any W x.D x.cD s.dead (HX.out.dead.below hB) (by rw [HX.out.lD]; exact HX.out.hD) (by rw [HX.out.lD]; exact bD); rw [HX.out.lD] at this; exact this : Calls Tryz.prog 40 #[.slice x.D x.nD x.cD] W (PPost W s.dead)))
  clear h HX
  obtain ⟨R, nR, cR, A, nA, cA, B, nB, cB, G, nG, cG, D, nD, cD⟩ := x
  unfold SA.v
  dsimp only at *
  have HBw := Lib.hid (below_alloc (below_alloc (below_alloc (Below.refl w.heap.size w) (.cells #[.slice R nR cR, .slice A nA cA, .slice B nB cB, .int .i64 s.txg, .slice G nG cG, .int .i64 s.keep, .slice D nD cD, .bool s.same] 28)) (.cells #[.slice none 0 0, .slice none 0 0, .slice none 0 0, .int .i64 0, .slice none 0 0, .int .i64 0, .slice none 0 0, .bool false] 38)) (.cells #[.slice none 0 0, .slice none 0 0, .slice none 0 0, .int .i64 0, .slice none 0 0, .int .i64 0, .slice none 0 0, .bool false] 38))
  go_enter Tryz.func12, Tryz.ntmps12
  have SB0 := Lib.hid (((box_new w #[.slice R nR cR, .slice A nA cA, .slice B nB cB, .int .i64 s.txg, .slice G nG cG, .int .i64 s.keep, .slice D nD cD, .bool s.same] 28).alloc (.cells #[.slice none 0 0, .slice none 0 0, .slice none 0 0, .int .i64 0, .slice none 0 0, .int .i64 0, .slice none 0 0, .bool false] 38)).alloc (.cells #[.slice none 0 0, .slice none 0 0, .slice none 0 0, .int .i64 0, .slice none 0 0, .int .i64 0, .slice none 0 0, .bool false] 38))
  have RC0 := box_new (w.alloc (.cells #[.slice R nR cR, .slice A nA cA, .slice B nB cB, .int .i64 s.txg, .slice G nG cG, .int .i64 s.keep, .slice D nD cD, .bool s.same] 28)) #[.slice none 0 0, .slice none 0 0, .slice none 0 0, .int .i64 0, .slice none 0 0, .int .i64 0, .slice none 0 0, .bool false] 38
  have OT0 := box_new ((w.alloc (.cells #[.slice R nR cR, .slice A nA cA, .slice B nB cB, .int .i64 s.txg, .slice G nG cG, .int .i64 s.keep, .slice D nD cD, .bool s.same] 28)).alloc (.cells #[.slice none 0 0, .slice none 0 0, .slice none 0 0, .int .i64 0, .slice none 0 0, .int .i64 0, .slice none 0 0, .bool false] 38)) #[.slice none 0 0, .slice none 0 0, .slice none 0 0, .int .i64 0, .slice none 0 0, .int .i64 0, .slice none 0 0, .bool false] 38
  rw [World.size_alloc] at RC0 OT0
  rw [World.size_alloc] at OT0
  replace RC0 := Lib.hid (RC0.alloc (.cells #[.slice none 0 0, .slice none 0 0, .slice none 0 0, .int .i64 0, .slice none 0 0, .int .i64 0, .slice none 0 0, .bool false] 38))
  replace OT0 := Lib.hid OT0
  go_wp2_with fail
  refine Calls.mono (E1.out _ HBw.out) ?_
  rintro e w1 ⟨v1, rfl, hO1, hB1⟩
  obtain ⟨A1, cap1, rfl, hc1, hm1, hge1, hR1⟩ := hO1.form
  have HB1 := Lib.hid (below_below HBw.out hB1)
  have R1 := Lib.hid hR1
  have G1 := Lib.hid (fun a ha => (hge1 a ha).1)
  have SB1 := Lib.hid (SB0.out.below hB1)
  have RC1 := Lib.hid (RC0.out.below hB1)
  have OT1 := Lib.hid (OT0.out.below hB1)
  have sb1 := SB1.out.cell
  have sl1 := SB1.out.lt
  have rb1 := RC1.out.cell
  have rf1 := RC1.out.froz
  have rl1 := RC1.out.lt
  have ob1 := OT1.out.cell
  have of1 := OT1.out.froz
  have ol1 := OT1.out.lt
  have hw1 : w.heap.size + 1 + 1 < w1.heap.size := ol1
  clear hB1 hO1 hR1 hge1 SB0 RC0 OT0
  simp only [World.size_alloc] at G1
  go_wp2_with fail
  have OT1b := Lib.hid (OT1.out.put 0 (.slice A1 s.rows.length cap1))
  have SB1b := Lib.hid (SB1.out.set (p := ⟨w.heap.size + 1 + 1, 0, none⟩) (by dsimp only; omega) (.slice A1 s.rows.length cap1))
  have RC1b := Lib.hid (RC1.out.set (p := ⟨w.heap.size + 1 + 1, 0, none⟩) (by dsimp only; omega) (.slice A1 s.rows.length cap1))
  have HB1b := Lib.hid (below_set HB1.out (p := ⟨w.heap.size + 1 + 1, 0, none⟩) (by dsimp only; omega) (.slice A1 s.rows.length cap1))
  have K1 := Lib.hid ((Kp.refl [w.heap.size + 1, w.heap.size + 1 + 1] w1).setCell (p := ⟨w.heap.size + 1 + 1, 0, none⟩) (.inl (by simp)) (.slice A1 s.rows.length cap1))
  clear sb1 sl1 rb1 rf1 rl1 ob1 of1 ol1 SB1 RC1 OT1
  have z1 : (w1.setCell ⟨w.heap.size + 1 + 1, 0, none⟩ (.slice A1 s.rows.length cap1)).heap.size = w1.heap.size := World.size_setCell _ _ _
  refine Calls.mono (E2.out _ HB1b.out) ?_
  rintro e w2 ⟨A2, cap2, A3, cap3, rfl, hc2, hm2, hc3, hm3, hr2, hr3, hg2, hg3, hB2⟩
  have HB2 := Lib.hid (below_below HB1b.out hB2)
  have SB2 := Lib.hid (SB1b.out.below hB2)
  have RC2 := Lib.hid (RC1b.out.below hB2)
  have OT2 := Lib.hid (show BoxAt w2 (w.heap.size + 1 + 1) #[.slice A1 s.rows.length cap1, .slice none 0 0, .slice none 0 0, .int .i64 0, .slice none 0 0, .int .i64 0, .slice none 0 0, .bool false] 38 from OT1b.out.below hB2)
  have KK1 := Lib.hid (kp_trans_below K1.out hB2)
  clear OT1b SB1b RC1b HB1b K1
  have R1b := Lib.hid (R1.out.kp KK1.out (fun _ a ha hm => by have := G1.out a ha; simp at hm; omega))
  have R2 := Lib.hid hr2
  have R3 := Lib.hid hr3
  rw [z1] at hg2 hg3
  have G2 := Lib.hid hg2
  have G3 := Lib.hid hg3
  have sb2 := SB2.out.cell
  have sl2 := SB2.out.lt
  have rb2 := RC2.out.cell
  have rf2 := RC2.out.froz
  have rl2 := RC2.out.lt
  have ob2 := OT2.out.cell
  have of2 := OT2.out.froz
  have ol2 := OT2.out.lt
  have h12 : w1.heap.size ≤ w2.heap.size := KK1.out.size
  clear hB2 hr2 hr3 hg2 hg3 R1 KK1 HB1 z1
  go_wp2_with fail
  have OT2b := Lib.hid (((OT2.out.put 1 (.slice A2 s.refs.length cap2)).put 2 (.slice A3 s.last.length cap3)).put 3 (.int .i64 s.txg))
  have SB2b := Lib.hid (((SB2.out.set (p := ⟨w.heap.size + 1 + 1, 1, none⟩) (by dsimp only; omega) (.slice A2 s.refs.length cap2)).set (p := ⟨w.heap.size + 1 + 1, 2, none⟩) (by dsimp only; omega) (.slice A3 s.last.length cap3)).set (p := ⟨w.heap.size + 1 + 1, 3, none⟩) (by dsimp only; omega) (.int .i64 s.txg))
  have RC2b := Lib.hid (((RC2.out.set (p := ⟨w.heap.size + 1 + 1, 1, none⟩) (by dsimp only; omega) (.slice A2 s.refs.length cap2)).set (p := ⟨w.heap.size + 1 + 1, 2, none⟩) (by dsimp only; omega) (.slice A3 s.last.length cap3)).set (p := ⟨w.heap.size + 1 + 1, 3, none⟩) (by dsimp only; omega) (.int .i64 s.txg))
  have HB2b := Lib.hid (below_set (below_set (below_set HB2.out (p := ⟨w.heap.size + 1 + 1, 1, none⟩) (by dsimp only; omega) (.slice A2 s.refs.length cap2)) (p := ⟨w.heap.size + 1 + 1, 2, none⟩) (by dsimp only; omega) (.slice A3 s.last.length cap3)) (p := ⟨w.heap.size + 1 + 1, 3, none⟩) (by dsimp only; omega) (.int .i64 s.txg))
  have K2 := Lib.hid ((((Kp.refl [w.heap.size + 1, w.heap.size + 1 + 1] w2).setCell (p := ⟨w.heap.size + 1 + 1, 1, none⟩) (.inl (by simp)) (.slice A2 s.refs.length cap2)).setCell (p := ⟨w.heap.size + 1 + 1, 2, none⟩) (.inl (by simp)) (.slice A3 s.last.length cap3)).setCell (p := ⟨w.heap.size + 1 + 1, 3, none⟩) (.inl (by simp)) (.int .i64 s.txg))
  clear sb2 sl2 rb2 rf2 rl2 ob2 of2 ol2 SB2 RC2 OT2
  refine Calls.mono (E3.out _ HB2b.out) ?_
  rintro e w3 ⟨v4, rfl, hO3, hB3⟩
  obtain ⟨A4, cap4, rfl, hc4, hm4, hge4, hR4⟩ := hO3.form
  simp only [World.size_setCell] at hge4
  have HB3 := Lib.hid (below_below HB2b.out hB3)
  have SB3 := Lib.hid (SB2b.out.below hB3)
  have RC3 := Lib.hid (RC2b.out.below hB3)
  have OT3 := Lib.hid (show BoxAt w3 (w.heap.size + 1 + 1) #[.slice A1 s.rows.length cap1, .slice A2 s.refs.length cap2, .slice A3 s.last.length cap3, .int .i64 s.txg, .slice none 0 0, .int .i64 0, .slice none 0 0, .bool false] 38 from OT2b.out.below hB3)
  have KK2 := Lib.hid (kp_trans_below K2.out hB3)
  clear OT2b SB2b RC2b HB2b K2
  have R1c := Lib.hid (R1b.out.kp KK2.out (fun _ a ha hm => by have := G1.out a ha; simp at hm; omega))
  have R2c := Lib.hid (R2.out.kp KK2.out (fun _ a ha hm => by have := G2.out a ha; simp at hm; omega))
  have R3c := Lib.hid (R3.out.kp KK2.out (fun _ a ha hm => by have := G3.out a ha; simp at hm; omega))
  have R4 := Lib.hid hR4
  have G4 := Lib.hid (fun a ha => (hge4 a ha).1)
  have sb3 := SB3.out.cell
  have sl3 := SB3.out.lt
  have rb3 := RC3.out.cell
  have rf3 := RC3.out.froz
  have rl3 := RC3.out.lt
  have ob3 := OT3.out.cell
  have of3 := OT3.out.froz
  have ol3 := OT3.out.lt
  have h23 : w2.heap.size ≤ w3.heap.size := KK2.out.size
  clear hB3 hO3 hR4 hge4 R1b R2 R3 KK2 HB2
  go_wp2_with fail
  have OT3b := Lib.hid ((OT3.out.put 4 (.slice A4 s.gone.length cap4)).put 5 (.int .i64 s.keep))
  have SB3b := Lib.hid ((SB3.out.set (p := ⟨w.heap.size + 1 + 1, 4, none⟩) (by dsimp only; omega) (.slice A4 s.gone.length cap4)).set (p := ⟨w.heap.size + 1 + 1, 5, none⟩) (by dsimp only; omega) (.int .i64 s.keep))
  have RC3b := Lib.hid ((RC3.out.set (p := ⟨w.heap.size + 1 + 1, 4, none⟩) (by dsimp only; omega) (.slice A4 s.gone.length cap4)).set (p := ⟨w.heap.size + 1 + 1, 5, none⟩) (by dsimp only; omega) (.int .i64 s.keep))
  have HB3b := Lib.hid (below_set (below_set HB3.out (p := ⟨w.heap.size + 1 + 1, 4, none⟩) (by dsimp only; omega) (.slice A4 s.gone.length cap4)) (p := ⟨w.heap.size + 1 + 1, 5, none⟩) (by dsimp only; omega) (.int .i64 s.keep))
  have K3 := Lib.hid (((Kp.refl [w.heap.size + 1, w.heap.size + 1 + 1] w3).setCell (p := ⟨w.heap.size + 1 + 1, 4, none⟩) (.inl (by simp)) (.slice A4 s.gone.length cap4)).setCell (p := ⟨w.heap.size + 1 + 1, 5, none⟩) (.inl (by simp)) (.int .i64 s.keep))
  clear sb3 sl3 rb3 rf3 rl3 ob3 of3 ol3 SB3 RC3 OT3
  refine Calls.mono (E4.out _ HB3b.out) ?_
  rintro e w4 ⟨v5, rfl, hO4, hB4⟩
  obtain ⟨A5, cap5, rfl, hc5, hm5, hge5, hR5⟩ := hO4.form
  simp only [World.size_setCell] at hge5
  have HB4 := Lib.hid (below_below HB3b.out hB4)
  have SB4 := Lib.hid (SB3b.out.below hB4)
  have RC4 := Lib.hid (RC3b.out.below hB4)
  have OT4 := Lib.hid (show BoxAt w4 (w.heap.size + 1 + 1) #[.slice A1 s.rows.length cap1, .slice A2 s.refs.length cap2, .slice A3 s.last.length cap3, .int .i64 s.txg, .slice A4 s.gone.length cap4, .int .i64 s.keep, .slice none 0 0, .bool false] 38 from OT3b.out.below hB4)
  have KK3 := Lib.hid (kp_trans_below K3.out hB4)
  clear OT3b SB3b RC3b HB3b K3
  have R1d := Lib.hid (R1c.out.kp KK3.out (fun _ a ha hm => by have := G1.out a ha; simp at hm; omega))
  have R2d := Lib.hid (R2c.out.kp KK3.out (fun _ a ha hm => by have := G2.out a ha; simp at hm; omega))
  have R3d := Lib.hid (R3c.out.kp KK3.out (fun _ a ha hm => by have := G3.out a ha; simp at hm; omega))
  have R4d := Lib.hid (R4.out.kp KK3.out (fun _ a ha hm => by have := G4.out a ha; simp at hm; omega))
  have R5 := Lib.hid hR5
  have G5 := Lib.hid (fun a ha => (hge5 a ha).1)
  have sb4 := SB4.out.cell
  have sl4 := SB4.out.lt
  have rb4 := RC4.out.cell
  have rf4 := RC4.out.froz
  have rl4 := RC4.out.lt
  have ob4 := OT4.out.cell
  have of4 := OT4.out.froz
  have ol4 := OT4.out.lt
  have h34 : w3.heap.size ≤ w4.heap.size := KK3.out.size
  clear hB4 hO4 hR5 hge5 R1c R2c R3c R4 KK3 HB3
  go_wp2_with fail
  have KF := Lib.hid (((((((((((Kp.refl [w.heap.size + 1, w.heap.size + 1 + 1] w4).setCell (p := ⟨w.heap.size + 1 + 1, 6, none⟩) (.inl (by simp)) (.slice A5 s.dead.length cap5)).setCell (p := ⟨w.heap.size + 1 + 1, 7, none⟩) (.inl (by simp)) (.bool s.same)).setCell (p := ⟨w.heap.size + 1, 0, none⟩) (.inl (by simp)) (.slice A1 s.rows.length cap1)).setCell (p := ⟨w.heap.size + 1, 1, none⟩) (.inl (by simp)) (.slice A2 s.refs.length cap2)).setCell (p := ⟨w.heap.size + 1, 2, none⟩) (.inl (by simp)) (.slice A3 s.last.length cap3)).setCell (p := ⟨w.heap.size + 1, 3, none⟩) (.inl (by simp)) (.int .i64 s.txg)).setCell (p := ⟨w.heap.size + 1, 4, none⟩) (.inl (by simp)) (.slice A4 s.gone.length cap4)).setCell (p := ⟨w.heap.size + 1, 5, none⟩) (.inl (by simp)) (.int .i64 s.keep)).setCell (p := ⟨w.heap.size + 1, 6, none⟩) (.inl (by simp)) (.slice A5 s.dead.length cap5)).setCell (p := ⟨w.heap.size + 1, 7, none⟩) (.inl (by simp)) (.bool s.same))
  have HBF := Lib.hid (below_set (below_set (below_set (below_set (below_set (below_set (below_set (below_set (below_set (below_set HB4.out (p := ⟨w.heap.size + 1 + 1, 6, none⟩) (by dsimp only; omega) (.slice A5 s.dead.length cap5)) (p := ⟨w.heap.size + 1 + 1, 7, none⟩) (by dsimp only; omega) (.bool s.same)) (p := ⟨w.heap.size + 1, 0, none⟩) (by dsimp only; omega) (.slice A1 s.rows.length cap1)) (p := ⟨w.heap.size + 1, 1, none⟩) (by dsimp only; omega) (.slice A2 s.refs.length cap2)) (p := ⟨w.heap.size + 1, 2, none⟩) (by dsimp only; omega) (.slice A3 s.last.length cap3)) (p := ⟨w.heap.size + 1, 3, none⟩) (by dsimp only; omega) (.int .i64 s.txg)) (p := ⟨w.heap.size + 1, 4, none⟩) (by dsimp only; omega) (.slice A4 s.gone.length cap4)) (p := ⟨w.heap.size + 1, 5, none⟩) (by dsimp only; omega) (.int .i64 s.keep)) (p := ⟨w.heap.size + 1, 6, none⟩) (by dsimp only; omega) (.slice A5 s.dead.length cap5)) (p := ⟨w.heap.size + 1, 7, none⟩) (by dsimp only; omega) (.bool s.same))
  have F0 := R1d.out.kp KF.out (fun _ a ha hm => by have := G1.out a ha; simp at hm; omega)
  have F1 := R2d.out.kp KF.out (fun _ a ha hm => by have := G2.out a ha; simp at hm; omega)
  have F2 := R3d.out.kp KF.out (fun _ a ha hm => by have := G3.out a ha; simp at hm; omega)
  have F3 := R4d.out.kp KF.out (fun _ a ha hm => by have := G4.out a ha; simp at hm; omega)
  have F4 := R5.out.kp KF.out (fun _ a ha hm => by have := G5.out a ha; simp at hm; omega)
  refine bodyPost_ret (v := .agg #[.slice A1 s.rows.length cap1, .slice A2 s.refs.length cap2, .slice A3 s.last.length cap3, .int .i64 s.txg, .slice A4 s.gone.length cap4, .int .i64 s.keep, .slice A5 s.dead.length cap5, .bool s.same]) (by simp [results, Tryz.results12, go_sem, ob4, rb4]) rfl ?_
  exact ⟨⟨A1, s.rows.length, cap1, A2, s.refs.length, cap2, A3, s.last.length, cap3, A4, s.gone.length, cap4, A5, s.dead.length, cap5⟩, rfl, ⟨F0, F1, F2, F3, F4, rfl, rfl, rfl, rfl, rfl, hc1, hc2, hc3, hc4, hc5, hm1, hm2, hm3, hm4, hm5⟩, HBF.out⟩

section
open Go.ChangeShapes Go.WideShapes Go.ChangeAt
theorem open_strsC {H : Type} {enc : TypeId × Value → H} {W : World} {base fuel : Nat} {v : Value} {x : DataW H × List MemPlace} (hf : DataW.trod enc Tryz.prog W base (fun _ => true) true fuel 22 [v] = some x) :
    ∃ (A : Option Addr) (cap : Nat) (xs : List ByteArray), v = .slice A xs.length cap ∧ xs.length ≤ cap ∧ cap ≤ 9223372036854775807 ∧ RdT encS 1 W A xs ∧ ∀ x ∈ xs, x.size ≤ 9223372036854775807 := by
  rcases open_strings Tryz.underlying22 Tryz.underlying9 (by kernel_rfl) hf with ⟨hcs, _⟩ | ⟨x, l, c, zs, hcs, _, hl, hm, hz, hx, hcell, hwz⟩
  · cases hcs
    exact ⟨none, 0, [], rfl, Nat.le_refl _, by omega, RdT.none_, fun _ hm => by cases hm⟩
  · cases hcs
    have hz' : zs.length = c := by simpa using hz
    have hlen : (zs.take l).length = l := by rw [List.length_take]; omega
    refine ⟨some x, c, zs.take l, by rw [hlen], by omega, by unfold maxLen at hm; omega, fun hn => ?_, fun z hzm => ?_⟩
    · have h0 : 0 < zs.length := by omega
      obtain ⟨b, off, spot⟩ := x
      have hs := spot_none (hcell 0 h0)
      have hspot : spot = none := by simpa [Addr.add] using hs
      subst hspot
      have hlt' : b < W.heap.size := by
        have := World.block_lt_of_cell? W _ (hcell 0 h0)
        simpa [Addr.add] using this
      refine ⟨b, off, rfl, hlt', fun i z hi j hj => ?_⟩
      obtain rfl : j = 0 := by omega
      have hi' : i < l := by
        rcases Nat.lt_or_ge i l with h | h
        · exact h
        · rw [List.getElem?_eq_none (by omega)] at hi; cases hi
      have := hcell i (by omega)
      rw [List.getElem?_take, if_pos hi'] at hi
      have e : zs.getD i ByteArray.empty = z := by simp [List.getD, hi]
      rw [e] at this
      have ea : (⟨b, off, none⟩ : Addr).add i = ⟨b, off + i * 1 + 0, none⟩ := by
        unfold Addr.add
        split
        · next h => subst h; simp
        · simp
      rw [ea] at this
      exact this
    · have := hwz z (List.mem_of_mem_take hzm)
      unfold maxLen at this
      omega

/-- A store that came in. -/
theorem open_store {H : Type} {enc : TypeId × Value → H} {W : World} {r : Reach} {b0 base : Nat} {v : Value} {dd : DataW H} {p : List MemPlace} (hval : Value.okWide Tryz.prog W r b0 28 v) (h : DataW.Trod enc Tryz.prog W base (fun _ => true) true 28 v dd p) :
    ∃ (x : SA) (s : St), v = x.v s.txg s.keep s.same ∧ SRd W x s ∧ ∀ r ∈ s.rows, r.size ≤ 9223372036854775807 := by
  have c1 : Tryz.prog.cellsOf 23 = 1 := by kernel_rfl
  have c2 : Tryz.prog.cellsOf 25 = 2 := by kernel_rfl
  have c3 : Tryz.prog.cellsOf 22 = 1 := by kernel_rfl
  have c4 : Tryz.prog.cellsOf 26 = 1 := by kernel_rfl
  have c5 : Tryz.prog.cellsOf 3 = 1 := by kernel_rfl
  have c6 : Tryz.prog.cellsOf 4 = 1 := by kernel_rfl
  have c8 : Tryz.prog.cellsOf 28 = 8 := by kernel_rfl
  obtain ⟨⟨cs⟩, rfl, hsz⟩ := okWide_struct Tryz.underlying28 hval
  obtain ⟨fuel, hf⟩ := h
  have hsz' : cs.length = 8 := by rw [← c8]; exact hsz
  match cs, hsz' with
  | [x0, x1, x2, x3, x4, x5, x6, x7], _ =>
    replace hf : DataW.trod enc Tryz.prog W base (fun _ => true) true fuel 28 [x0, x1, x2, x3, x4, x5, x6, x7] = some (dd, p) := hf
    obtain ⟨n0, y0, t0⟩ := trod_at Tryz.underlying28 hf 0 rfl rfl rfl c3 rfl
    obtain ⟨n1, y1, t1⟩ := trod_at Tryz.underlying28 hf 1 rfl rfl rfl c2 rfl
    obtain ⟨n2, y2, t2⟩ := trod_at Tryz.underlying28 hf 2 rfl rfl rfl c5 rfl
    obtain ⟨n3, y3, t3⟩ := trod_at Tryz.underlying28 hf 3 rfl rfl rfl c4 rfl
    obtain ⟨n4, y4, t4⟩ := trod_at Tryz.underlying28 hf 4 rfl rfl rfl c5 rfl
    obtain ⟨n5, y5, t5⟩ := trod_at Tryz.underlying28 hf 5 rfl rfl rfl c4 rfl
    obtain ⟨n6, y6, t6⟩ := trod_at Tryz.underlying28 hf 6 rfl rfl rfl c6 rfl
    obtain ⟨m0, z0, s0⟩ := trod_at Tryz.underlying25 t1 0 rfl rfl rfl c1 rfl
    obtain ⟨m1, z1, s1⟩ := trod_at Tryz.underlying25 t1 1 rfl rfl rfl c1 rfl
    obtain ⟨R, cR, rows, rfl, hR, mR, rR, hz⟩ := open_strsC t0
    obtain ⟨A, cA, refs, rfl, hA, mA, rA⟩ := open_nums s0
    obtain ⟨B, cB, last, rfl, hB, mB, rB⟩ := open_nums s1
    obtain ⟨G, cG, gone, rfl, hG, mG, rG⟩ := open_ptrs t3
    obtain ⟨D, cD, dead, rfl, hD, mD, rD⟩ := open_ptrs t5
    obtain ⟨a2, e2, _, _⟩ := DataW.trod_int Tryz.underlying3 t2
    obtain ⟨a4, e4, _, _⟩ := DataW.trod_int Tryz.underlying3 t4
    obtain ⟨a6, e6, _⟩ := DataW.trod_bool Tryz.underlying4 t6
    cases e2; cases e4; cases e6
    exact ⟨⟨R, _, cR, A, _, cA, B, _, cB, G, _, cG, D, _, cD⟩, ⟨rows, refs, last, a2, gone, a4, dead, a6⟩, rfl, ⟨rR, rA, rB, rG, rD, rfl, rfl, rfl, rfl, rfl, hR, hA, hB, hG, hD, mR, mA, mB, mG, mD⟩, hz⟩
end

end Go.Proofs.YtafadedacbjioaaGreatDoor

/- What every card of this seat takes beside its walk. -/
namespace Go.Proofs.YtafadedacbjioaaGreatDoor
open Go.ChangeShapes Go.WideShapes Go.ChangeAt Go.RowKit
theorem spec_fits : True := trivial
end Go.Proofs.YtafadedacbjioaaGreatDoor

/- What a card's laid tables give a walk: the powers of ten, the variable of the syntax error. -/
namespace Go.Proofs.YtafadedacbjioaaGreatDoor
open Go.RowKit Go.Stop
set_option maxRecDepth 100000
set_option linter.unusedVariables false

theorem tenAt_of {rest : List (String × DataW Unit)} {W : World} (h : laidMet Tryz.prog (("internal/strconv.uint64pow10", Rows.laid_internal_strconv_uint64pow10) :: rest) W) : TenAt W :=
  Lib.tabIs_of_head (g := 5) (by kernel_rfl) (by kernel_rfl) Tryz.underlying169 Tryz.underlying150 (by kernel_rfl) (by kernel_rfl) h
theorem star_err : "*" ++ "errors.errorString" = "*errors.errorString" := by decide
theorem row_err (u : TypeId) (h : Tryz.prog.typeName? 3 u = some "*errors.errorString") : u = 160 :=
  typeName_ptr_named (nm := "errors.errorString") (by rw [star_err]; kernel_rfl) (by kernel_rfl) (by decide) u (by rw [star_err]; exact h)
theorem errAt_of {rest : List (String × DataW Unit)} {W : World} (h : laidMet Tryz.prog (("strconv.ErrSyntax", Rows.laid_strconv_ErrSyntax) :: rest) W) : ErrAt W := by
  have hg : Tryz.prog.globalNamed "strconv.ErrSyntax" = some 3 := by kernel_rfl
  obtain ⟨a0, s0, hv0, _, _, _⟩ := laid_sentinel h hg (by kernel_rfl) Tryz.underlying87 row_err Tryz.underlying160 Tryz.underlying162 rfl rfl Tryz.underlying9 (by kernel_rfl) (by kernel_rfl)
  exact ⟨_, by simpa using World.var?_cell hg hv0 0, .inr ⟨_, _, rfl⟩⟩

end Go.Proofs.YtafadedacbjioaaGreatDoor

/- Marking a store, and whether the marks are still there. -/
namespace Go.Proofs.YtafadedacbjioaaGreatDoor
open Go.RowKit
set_option maxRecDepth 100000
set_option linter.unusedVariables false
set_option linter.unusedSimpArgs false

/-- A store's rows marked, from 1 on. -/
def marked (x : SA) (s : St) : St := { s with
  rows := markT 1 x.nR, refs := markN (1 + x.nR) x.nA, last := markN (1 + x.nR + x.nA) x.nB,
  gone := markP (1 + x.nR + x.nA + x.nB) x.nG, dead := markP (1 + x.nR + x.nA + x.nB + 5 * x.nG) x.nD }
def markSum (x : SA) : Nat := 1 + x.nR + x.nA + x.nB + 5 * x.nG + 5 * x.nD

def MarkSt (base : Nat) (w : World) (x : SA) (s : St) (e : Ending) (w' : World) : Prop := e = .returned (.int .i64 (markSum x : Nat)) ∧ SOwn base w' x (marked x s) ∧ Kp x.ex w w'

theorem markT_len' {x : SA} : (markT 1 x.nR).length = x.nR := markT_length _ _

set_option maxHeartbeats 4000000 in
theorem markStore_any (base : Nat) (w : World) (x : SA) (s : St) (t k : Int) (b : Bool) (h : SOwn base w x s) (bR : x.nR ≤ 1048576) (bA : x.nA ≤ 1048576) (bB : x.nB ≤ 1048576) (bG : x.nG ≤ 1048576) (bD : x.nD ≤ 1048576) :
    Calls Tryz.prog 19 #[x.v t k b, .int .i64 1] w (MarkSt base w x s) := by
  have HEX := Lib.hid h.ex_in
  have HA := Lib.hid h
  have hr := h.rd
  have lR := hr.lR
  have lA := hr.lA
  have lB := hr.lB
  have lG := hr.lG
  have lD := hr.lD
  have E1 := Lib.hid (fun W (O : Own encS 1 9 base W (.slice x.R x.nR x.cR) s.rows) => (by have := markStringS_any base W (.slice x.R x.nR x.cR) 1 s.rows O (by omega) (by omega) (by omega); rw [lR] at this; exact this : Calls Tryz.prog 49 #[.slice x.R x.nR x.cR, .int .i64 1] W fun e w' => e = .returned (.int .i64 (1 + x.nR : Nat)) ∧ Own encS 1 9 base w' (.slice x.R x.nR x.cR) (markT 1 x.nR) ∧ Kp (exOf' (.slice x.R x.nR x.cR)) W w'))
  have E2 := Lib.hid (fun W (O : Own encN 1 3 base W (.slice x.A x.nA x.cA) s.refs) (O2 : Own encN 1 3 base W (.slice x.B x.nB x.cB) s.last) => (by have := markSpace_any base W x.A x.B x.cA x.cB (1 + x.nR) s.refs s.last (by rw [lA]; exact O) (by rw [lB]; exact O2) (by rw [lA, lB]; exact HA.out.aB) (by omega) (by omega) (by omega); rw [lA, lB] at this; exact this : Calls Tryz.prog 50 #[.agg #[.slice x.A x.nA x.cA, .slice x.B x.nB x.cB], .int .i64 (1 + x.nR : Nat)] W fun e w' => e = .returned (.int .i64 (1 + x.nR + x.nA + x.nB : Nat)) ∧ Own encN 1 3 base w' (.slice x.A x.nA x.cA) (markN (1 + x.nR) x.nA) ∧ Own encN 1 3 base w' (.slice x.B x.nB x.cB) (markN (1 + x.nR + x.nA) x.nB) ∧ Kp (exOf' (.slice x.A x.nA x.cA) ++ exOf' (.slice x.B x.nB x.cB)) W w'))
  have E3 := Lib.hid (fun W (O : Own encP 5 40 base W (.slice x.G x.nG x.cG) s.gone) => (by have := markPtrS_any base W (.slice x.G x.nG x.cG) (1 + x.nR + x.nA + x.nB) s.gone O (by omega) (by omega); rw [lG] at this; exact this : Calls Tryz.prog 20 #[.slice x.G x.nG x.cG, .int .i64 (1 + x.nR + x.nA + x.nB : Nat)] W fun e w' => e = .returned (.int .i64 (1 + x.nR + x.nA + x.nB + 5 * x.nG : Nat)) ∧ Own encP 5 40 base w' (.slice x.G x.nG x.cG) (markP (1 + x.nR + x.nA + x.nB) x.nG) ∧ Kp (exP (.slice x.G x.nG x.cG)) W w'))
  have E4 := Lib.hid (fun W (O : Own encP 5 40 base W (.slice x.D x.nD x.cD) s.dead) => (by have := markPtrS_any base W (.slice x.D x.nD x.cD) (1 + x.nR + x.nA + x.nB + 5 * x.nG) s.dead O (by omega) (by omega); rw [lD] at this; exact this : Calls Tryz.prog 20 #[.slice x.D x.nD x.cD, .int .i64 (1 + x.nR + x.nA + x.nB + 5 * x.nG : Nat)] W fun e w' => e = .returned (.int .i64 (1 + x.nR + x.nA + x.nB + 5 * x.nG + 5 * x.nD : Nat)) ∧ Own encP 5 40 base w' (.slice x.D x.nD x.cD) (markP (1 + x.nR + x.nA + x.nB + 5 * x.nG) x.nD) ∧ Kp (exP (.slice x.D x.nD x.cD)) W w'))
  clear h hr lR lA lB lG lD
  have m1 : ∀ k ∈ exOf' (.slice x.R x.nR x.cR), k ∈ x.ex := fun k hk => by simp only [SA.ex, List.mem_append]; exact .inl hk
  have m2 : ∀ k ∈ exOf' (.slice x.A x.nA x.cA) ++ exOf' (.slice x.B x.nB x.cB), k ∈ x.ex := fun k hk => by
    rcases List.mem_append.1 hk with hk | hk
    · simp only [SA.ex, List.mem_append]; exact .inr (.inl hk)
    · simp only [SA.ex, List.mem_append]; exact .inr (.inr (.inl hk))
  have m3 : ∀ k ∈ exP (.slice x.G x.nG x.cG), k ∈ x.ex := fun k hk => by simp only [SA.ex, List.mem_append]; exact .inr (.inr (.inr (.inl hk)))
  have m4 : ∀ k ∈ exP (.slice x.D x.nD x.cD), k ∈ x.ex := fun k hk => by simp only [SA.ex, List.mem_append]; exact .inr (.inr (.inr (.inr hk)))
  have M1 := Lib.hid m1
  have M2 := Lib.hid m2
  have M3 := Lib.hid m3
  have M4 := Lib.hid m4
  clear m1 m2 m3 m4
  have hLT : ∀ k ∈ x.ex, k < w.heap.size := fun k hk => (HEX.out k hk).2
  have HLT := Lib.hid hLT
  clear hLT
  have HV : Hid (∀ W, MarkSt base w x s (.returned (.int .i64 (markSum x : Nat))) W ↔ (SOwn base W x (marked x s) ∧ Kp x.ex w W)) := Lib.hid (fun W => ⟨fun h => h.2, fun h => ⟨rfl, h⟩⟩)
  have HBw := Lib.hid (below_alloc (Below.refl w.heap.size w) (.cells #[.slice x.R x.nR x.cR, .slice x.A x.nA x.cA, .slice x.B x.nB x.cB, .int .i64 t, .slice x.G x.nG x.cG, .int .i64 k, .slice x.D x.nD x.cD, .bool b] 38))
  have S0 := Lib.hid (HA.out.below HBw.out)
  unfold SA.v
  have HF := Lib.hid (show markSum x = 1 + x.nR + x.nA + x.nB + 5 * x.nG + 5 * x.nD from rfl)
  have hk5 : 1 + x.nR + x.nA + x.nB + 5 * x.nG + 5 * x.nD ≤ 100000000 := by omega
  have hk4 : 1 + x.nR + x.nA + x.nB + 5 * x.nG ≤ 100000000 := by omega
  have hk3 : 1 + x.nR + x.nA + x.nB ≤ 100000000 := by omega
  have hk1 : 1 + x.nR ≤ 100000000 := by omega
  have HM := Lib.hid (show ∀ W, Own encS 1 9 base W (.slice x.R x.nR x.cR) (markT 1 x.nR) → Own encN 1 3 base W (.slice x.A x.nA x.cA) (markN (1 + x.nR) x.nA) → Own encN 1 3 base W (.slice x.B x.nB x.cB) (markN (1 + x.nR + x.nA) x.nB) →
      Own encP 5 40 base W (.slice x.G x.nG x.cG) (markP (1 + x.nR + x.nA + x.nB) x.nG) → Own encP 5 40 base W (.slice x.D x.nD x.cD) (markP (1 + x.nR + x.nA + x.nB + 5 * x.nG) x.nD) → Kp x.ex w W → MarkSt base w x s (.returned (.int .i64 (markSum x : Nat))) W from
    fun W a b c d e hk => ⟨rfl, ⟨a, b, c, d, e, HA.out.rA, HA.out.rB, HA.out.rG, HA.out.rD, HA.out.aB, HA.out.aG, HA.out.aD, HA.out.bG, HA.out.bD, HA.out.gD⟩, hk⟩)
  generalize 1 + x.nR + x.nA + x.nB + 5 * x.nG + 5 * x.nD = k5 at *
  generalize 1 + x.nR + x.nA + x.nB + 5 * x.nG = k4 at *
  generalize 1 + x.nR + x.nA + x.nB = k3 at *
  generalize 1 + x.nR + x.nA = k2 at *
  generalize 1 + x.nR = k1 at *
  rw [HF.out] at HM
  clear HV HF
  go_enter Tryz.func19, Tryz.ntmps19
  go_wp2_with fail
  refine Calls.mono (E1.out _ S0.out.rows) ?_
  rintro e w1 ⟨rfl, hO, hK⟩
  have b1 := box_kp (hK.mono M1.out) HLT.out
  have K1 := Lib.hid (hK.mono M1.out)
  have r1 := Lib.hid hO
  have a1 := Lib.hid (S0.out.refs.kpx hK HA.out.rA)
  have l1 := Lib.hid (S0.out.last.kpx hK HA.out.rB)
  have g1 := Lib.hid (S0.out.gone.kpx hK HA.out.rG)
  have d1 := Lib.hid (S0.out.dead.kpx hK HA.out.rD)
  clear hO hK S0
  go_wp2_with fail
  refine Calls.mono (E2.out _ a1.out l1.out) ?_
  rintro e w2 ⟨rfl, hO, hO', hK⟩
  have b2 := box_kp (K1.out.trans (hK.mono M2.out)) HLT.out
  have K2 := Lib.hid (K1.out.trans (hK.mono M2.out))
  have r2 := Lib.hid (r1.out.kp hK (fun k hm e => by
    rcases List.mem_append.1 hm with hm | hm
    · exact HA.out.rA k (mem_exOf' e) hm
    · exact HA.out.rB k (mem_exOf' e) hm))
  have a2 := Lib.hid hO
  have l2 := Lib.hid hO'
  have g2 := Lib.hid (g1.out.kp hK (fun k hm e => by
    rcases List.mem_append.1 hm with hm | hm
    · exact HA.out.aG k hm (mem_exOf' e)
    · exact HA.out.bG k hm (mem_exOf' e)))
  have d2 := Lib.hid (d1.out.kp hK (fun k hm e => by
    rcases List.mem_append.1 hm with hm | hm
    · exact HA.out.aD k hm (mem_exOf' e)
    · exact HA.out.bD k hm (mem_exOf' e)))
  clear hO hO' hK b1 K1 r1 a1 l1 g1 d1
  go_wp2_with fail
  refine Calls.mono (E3.out _ g2.out) ?_
  rintro e w3 ⟨rfl, hO, hK⟩
  have b3 := box_kp (K2.out.trans (hK.mono M3.out)) HLT.out
  have K3 := Lib.hid (K2.out.trans (hK.mono M3.out))
  have r3 := Lib.hid (r2.out.kpx hK HA.out.rG.symm)
  have a3 := Lib.hid (a2.out.kpx hK HA.out.aG.symm)
  have l3 := Lib.hid (l2.out.kpx hK HA.out.bG.symm)
  have g3 := Lib.hid hO
  have d3 := Lib.hid (d2.out.kpx hK HA.out.gD)
  clear hO hK b2 K2 r2 a2 l2 g2 d2
  go_wp2_with fail
  refine Calls.mono (E4.out _ d3.out) ?_
  rintro e w4 ⟨rfl, hO, hK⟩
  have K4 := Lib.hid (((Kp.of_below HBw.out).all x.ex).trans (K3.out.trans (hK.mono M4.out)))
  have r4 := Lib.hid (r3.out.kpx hK HA.out.rD.symm)
  have a4 := Lib.hid (a3.out.kpx hK HA.out.aD.symm)
  have l4 := Lib.hid (l3.out.kpx hK HA.out.bD.symm)
  have g4 := Lib.hid (g3.out.kpx hK HA.out.gD.symm)
  have d4 := Lib.hid hO
  clear hO hK b3 K3 r3 a3 l3 g3 d3
  go_wp2_with fail
  go_ret
  exact HM.out _ r4.out a4.out l4.out g4.out d4.out K4.out

end Go.Proofs.YtafadedacbjioaaGreatDoor
