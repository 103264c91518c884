/- Records read out of a text: both texts' walks. -/
import Derived.Test.YthedmiippfpbnaaGreatDoorFields
import Derived.Test.YthedmiippfpbnaaGreatDoorEntGet
namespace Go.Proofs.YthedmiippfpbnaaGreatDoor
open Go.RowKit Go.Sort
set_option maxRecDepth 100000
set_option linter.unusedVariables false
set_option linter.unusedSimpArgs false
attribute [local go_sem ↓] Go.wp_at_zero Go.wp_at_succ

theorem ext_take (s : ByteArray) (n : Nat) : (s.extract 0 n).data.toList = s.data.toList.take n := by
  rw [ByteArray.data_extract]; simp
theorem ext_drop (s : ByteArray) (n : Nat) : (s.extract n s.size).data.toList = s.data.toList.drop n := by
  rw [ByteArray.data_extract]
  simp only [Array.toList_extract]
  have : s.data.toList.length = s.size := Array.length_toList
  rw [List.extract_eq_take_drop]
  rw [List.take_of_length_le]
  simp
theorem recGet_good {s R : List UInt8} {l : List ByteArray} {tail : ByteArray} (h : RecAt s l R) (h1 : (Lib.cut R [58]).2.2 = true) (ht : (Lib.cut R [58]).2.1 = tail.data.toList) {num : ByteArray} (hn : (Lib.cut R [58]).1 = num.data.toList) (h2 : numB num = true) {n : Nat} (hv : numV num = (n : Int)) (h3 : n ≤ tail.size) :
    RecAt s (l ++ [tail.extract 0 n]) (tail.extract n tail.size).data.toList ∧ (tail.extract n tail.size).size < R.length := by
  rcases cut1_cases 58 R with ⟨e, _⟩ | ⟨p, x, hR, hp, e⟩
  · rw [e] at h1; cases h1
  · rw [e] at ht hn
    dsimp only at ht hn
    have hts : tail.data.toList.length = tail.size := Array.length_toList
    have hd := numB_data h2
    have hez : (tail.extract 0 n).size = n := by rw [ByteArray.size_extract]; omega
    refine ⟨recAt_next (e := tail.extract 0 n) h ?_, ?_⟩
    · rw [hR, hn, hd, hv, hez, ht, ext_take, ext_drop, List.take_append_drop]
    · rw [ByteArray.size_extract, hR]
      simp only [List.length_append, List.length_cons, ht, hts]
      omega
theorem recGet_bad {s : ByteArray} {R : List UInt8} {l : List ByteArray} {num tail : ByteArray} (h : RecAt s.data.toList l R) (hR : R ≠ []) (hn : (Lib.cut R [58]).1 = num.data.toList) (ht : (Lib.cut R [58]).2.1 = tail.data.toList)
    (hb : (Lib.cut R [58]).2.2 = false ∨ numB num = false ∨ (tail.size : Int) < numV num ∨ l.length = 60) : RecG s [] false :=
  .inr ⟨rfl, rfl, fun m hm he => by
    obtain ⟨e, m', e1, e2, e3, e4⟩ := rec_begin h hR hm he
    have g1 : Lib.cut R [58] = (decL (e.size : Int), e.data.toList ++ recL m', true) := by
      rw [e1, ← cut1_hit (c := 58) (x := e.data.toList ++ recL m') (decL_free (by decide))]
    rw [g1] at hb hn ht
    dsimp only at hb hn ht
    have hnn := numB_dec (s := num) (n := (e.size : Int)) (by omega) (by omega) hn.symm
    rw [hnn.1, hnn.2] at hb
    have hts : tail.data.toList.length = tail.size := Array.length_toList
    have hes : e.data.toList.length = e.size := Array.length_toList
    have := congrArg List.length ht
    rw [List.length_append] at this
    simp only [Bool.true_eq_false, false_or] at hb
    omega⟩

/-! The reference: at a place of the text. -/
theorem lead_stop {d x : List UInt8} {c : UInt8} (hd : ∀ b ∈ d, digB b = true) (hl : d.length ≤ 9) (hc : digB c = false) : leadL (d ++ c :: x) = d := by
  have h := leadL_take (l := d ++ c :: x) (k := d.length) hl (by simp) (by simpa using hd) (.inr (.inr ⟨c, by simp, hc⟩))
  rw [h]
  simp
theorem lead_pre {R : List UInt8} {k : Nat} (hk : k = (leadL R).length) : R = leadL R ++ R.drop k := by
  obtain ⟨t, ht⟩ := leadL_pre R
  conv => lhs; rw [← ht]
  have : R.drop k = t := by
    conv => lhs; rw [← ht]
    rw [hk]; simp
  rw [this]
theorem specRec_good {s R : List UInt8} {l : List ByteArray} (h : RecAt s l R) (q : ByteArray) (hq : q.data.toList = R) {n k : Nat} (hn : l1N q = (n : Int)) (hk : l1K q = k) (h1 : ¬ k = 0) (h2 : R[k]? = some 58) (e : ByteArray) (he : e.data.toList = (R.drop (k + 1)).take n) (h3 : n ≤ R.length - (k + 1)) :
    RecAt s (l ++ [e]) (R.drop (k + 1 + n)) := by
  have hz : zeroB R = false := by
    cases hz : zeroB R
    · rfl
    · have hz' := hz
      simp only [zeroB, Bool.and_eq_true, decide_eq_true_eq] at hz'
      rw [l1K, hq, hz] at hk
      simp only [if_true] at hk
      subst hk
      have e1 := lead_pre (R := R) rfl
      rw [e1, List.getElem?_append_left hz'.1, List.getElem?_eq_getElem hz'.1] at h2
      have := leadL_dig R _ (List.getElem_mem hz'.1)
      rw [Option.some.inj h2] at this
      cases this
  rw [l1N, hq, hz] at hn
  rw [l1K, hq, hz] at hk
  simp only [Bool.false_eq_true, if_false] at hn hk
  have e1 := lead_pre (R := R) hk.symm
  have hkl : k < R.length := by
    rcases Nat.lt_or_ge k R.length with hl | hl
    · exact hl
    · rw [List.getElem?_eq_none hl] at h2; cases h2
  have e2 : R.drop k = 58 :: R.drop (k + 1) := by
    rw [List.drop_eq_getElem_cons hkl]
    rw [List.getElem?_eq_getElem hkl] at h2
    rw [Option.some.inj h2]
  have hok : numOk (leadL R) = true := by
    refine numOk_iff.2 ⟨leadL_dig R, ⟨by omega, (leadL_len R).1⟩, ?_⟩
    simp only [zeroB, Bool.and_eq_false_imp, decide_eq_true_eq, beq_eq_false_iff_ne] at hz
    rcases Nat.lt_or_ge 1 (leadL R).length with hl | hl
    · refine .inr (fun hc => hz hl ?_)
      rw [e1]
      cases hL : leadL R with
      | nil => rw [hL] at hl; simp at hl
      | cons b r => rw [hL] at hc; simpa using hc
    · exact .inl (by omega)
  have hdec := dec_of_numOk hok
  have hez : (e.size : Int) = (n : Int) := by
    have h4 : e.data.toList.length = e.size := Array.length_toList
    rw [he, List.length_take, List.length_drop] at h4
    omega
  have hnn : valL (leadL R) = n := by omega
  refine recAt_next h ?_
  rw [hez, he, decL, Int.toNat_natCast, ← hnn, hdec]
  conv => lhs; rw [e1, e2]
  have e6 : R.drop (k + 1 + n) = (R.drop (k + 1)).drop n := by rw [List.drop_drop]
  rw [hnn, e6, List.take_append_drop]
theorem specRec_bad {s : ByteArray} {R : List UInt8} {l : List ByteArray} (h : RecAt s.data.toList l R) (hR : R ≠ []) (q : ByteArray) (hq : q.data.toList = R) (hb : l1K q = 0 ∨ R.length ≤ l1K q ∨ R[l1K q]? ≠ some 58 ∨ ((R.length : Int) - l1K q - 1 < l1N q)) : RecG s [] false :=
  .inr ⟨rfl, rfl, fun m hm he => by
    obtain ⟨e, m', e1, e2, e3, e4⟩ := rec_begin h hR hm he
    have hlen := decL_len (n := (e.size : Int)) (by omega) (by omega)
    have hld : leadL R = decL (e.size : Int) := by
      rw [e1]
      exact lead_stop (dec_digits _) hlen.2 (by decide)
    have hok := numOk_iff.1 (numOk_dec (u := (e.size : Int).toNat) (by omega))
    have hz : zeroB R = false := by
      cases hz : zeroB R
      · rfl
      · simp only [zeroB, Bool.and_eq_true, decide_eq_true_eq, beq_iff_eq] at hz
        obtain ⟨z1, z2⟩ := hz
        rw [hld] at z1
        rcases hok.2.2 with o | o
        · rw [decL] at z1; omega
        · refine absurd ?_ o
          have e5 := lead_pre (R := R) rfl
          rw [hld] at e5
          rw [e5] at z2
          show (decL (e.size : Int)).head? = some 48
          cases hL : decL (e.size : Int) with
          | nil => rw [hL] at hlen; simp at hlen
          | cons b r => rw [hL] at z2; simpa using z2
    have hK : l1K q = (decL (e.size : Int)).length := by rw [l1K, hq, hz, hld]; rfl
    have hN : l1N q = (e.size : Int) := by
      rw [l1N, hq, hz, hld]
      show ((valL (Lib.decDigits (e.size : Int).toNat) : Nat) : Int) = _
      rw [dec_val]; omega
    have hes : e.data.toList.length = e.size := Array.length_toList
    have hRl : R.length = (decL (e.size : Int)).length + 1 + e.size + (recL m').length := by
      rw [e1]
      simp only [List.length_append, List.length_cons]
      omega
    have hc : R[(decL (e.size : Int)).length]? = some 58 := by rw [e1]; simp
    rw [hK, hN] at hb
    rcases hb with hb | hb | hb | hb
    · omega
    · omega
    · exact hb hc
    · omega⟩

/-- What reading a record gives. -/
def GetR (w : World) (s : ByteArray) (e : Ending) (w' : World) : Prop := ∃ (v : Value) (l : List ByteArray) (b : Bool), e = .returned (.tuple #[v, .bool b]) ∧ RecG s l b ∧ Own encS 1 9 w.heap.size w' v l ∧ Below w.heap.size w w'
theorem own_nilS (base : Nat) (w : World) : Own encS 1 9 base w (.slice none 0 0) ([] : List ByteArray) := ⟨by simp [cellsOf], .inl ⟨rfl, rfl⟩⟩
theorem rec_long_bad {s : ByteArray} (h : 2048 < s.size) : RecG s [] false :=
  .inr ⟨rfl, rfl, fun m hm he => by
    have h1 := (recB_iff.1 hm).2
    have h3 : s.data.toList.length = s.size := Array.length_toList
    rw [he] at h1
    omega⟩
set_option maxHeartbeats 4000000 in
theorem fieldsGet_any (w : World) (s : ByteArray) (hT : TenAt w) (hE : ErrAt w) (hM : CutAt w) (hs : s.size ≤ 1048576) : Calls Tryz.prog 12 #[.string s] w (GetR w s) := by
  by_cases hbig : 2048 < s.size
  · have HE := Lib.hid (rec_long_bad hbig)
    go_enter Tryz.func12, Tryz.ntmps12
    go_wp2_with fail
    go_ret2
    exact ⟨_, [], false, rfl, HE.out, own_nilS _ _, Below.refl _ _⟩
  have LB := Lib.hid (And.intro hT (And.intro hE hM))
  clear hT hE hM
  go_enter Tryz.func12, Tryz.ntmps12
  go_wp2_with fail
  go_loopw [4, 5] (fun x r wr => ∃ (l : List ByteArray) (R : ByteArray), r = .string R ∧ R.size ≤ 2048 ∧ l.length ≤ 60 ∧ Hid (RecAt s.data.toList l R.data.toList) ∧ Hid (Own encS 1 9 w.heap.size wr x l) ∧ Hid (Below w.heap.size w wr)) (fun _ r _ => strLen r)
  case atStart => exact ⟨[], s, rfl, by omega, by simp, Lib.hid (recAt_start _), Lib.hid (own_nilS _ _), Lib.hid (Below.refl _ _)⟩
  case round =>
    obtain ⟨l, R, rfl, hRz, hl, HA, HO, HB⟩ := hrel
    by_cases hR : R.size = 0
    · have hR0 : R = ⟨#[]⟩ := ofL_ext (List.length_eq_zero_iff.1 (by rw [Array.length_toList]; exact hR))
      subst hR0
      obtain ⟨A4, c4, rfl, hc4, hm4, _, hrd4⟩ := HO.out.form
      have h1 := HA.out.1
      rw [show (⟨#[]⟩ : ByteArray).data.toList = [] from rfl, List.append_nil] at h1
      have hrl := congrArg List.length h1
      have h3 : s.data.toList.length = s.size := Array.length_toList
      have HE := Lib.hid ((recAt_end HA.out).1 (rec_fits hl (by omega)))
      clear hrd4 HA h1 hrl h3
      go_wp2_with fail
      go_ret2
      exact ⟨_, l, true, rfl, HE.out, HO.out, HB.out⟩
    · have hRne : R.data.toList ≠ [] := fun e => hR (by
        have h3 : R.data.toList.length = R.size := Array.length_toList
        rw [e] at h3
        exact h3.symm)
      have hq2 : R.toList.isEmpty = false := by
        rw [Lib.toList_data]
        simpa using hRne
      have HC1 := Lib.hid (cut_any R 58 wr (LB.out.2.2.below HB.out) (by omega))
      have hz1 := cut_size R 58
      have HL1 := Lib.hid (show (Lib.cut R.data.toList [58]).1 = (ofL (Lib.cut R.data.toList [58]).1).data.toList from (ofL_data _).symm)
      have HL2 := Lib.hid (show (Lib.cut R.data.toList [58]).2.1 = (ofL (Lib.cut R.data.toList [58]).2.1).data.toList from (ofL_data _).symm)
      have hRl : R.data.toList.length = R.size := Array.length_toList
      have HG := Lib.hid (fun (n : Nat) h1 h2 hv h3 => recGet_good (n := n) HA.out h1 HL2.out HL1.out h2 hv h3)
      have HBAD := Lib.hid (recGet_bad HA.out hRne HL1.out HL2.out)
      rw [hRl] at HG
      clear hRl hRne HA HL1 HL2
      generalize (Lib.cut R.data.toList [58]).2.2 = k1 at *
      generalize ofL (Lib.cut R.data.toList [58]).1 = num at *
      generalize ofL (Lib.cut R.data.toList [58]).2.1 = tail at *
      have HN := Lib.hid (fun w hT hE => numGet_any num w hT hE (by omega))
      have hnv := numV_in (s := num)
      obtain ⟨nv, hnve⟩ : ∃ nv : Nat, numV num = (nv : Int) := ⟨(numV num).toNat, by omega⟩
      rw [hnve] at HN HBAD hnv
      have HG2 := Lib.hid (fun h1 h2 h3 => HG.out nv h1 h2 hnve h3)
      clear hnve HG
      generalize numB num = nb at *
      go_wp2_with fail
      refine Calls.mono HC1.out ?_
      rintro e w2 ⟨rfl, hB2⟩
      have HB2 := Lib.hid (below_below HB.out hB2)
      have O2 := Lib.hid (HO.out.below hB2)
      clear hB2 HO HB HC1
      go_wp2_with fail
      refine Calls.mono (HN.out w2 (LB.out.1.below HB2.out) (LB.out.2.1.below HB2.out)) ?_
      rintro e w4 ⟨rfl, hB4⟩
      have HB4 := Lib.hid (below_below HB2.out hB4)
      have O4 := Lib.hid (O2.out.below hB4)
      obtain ⟨A4, c4, rfl, hc4, hm4, _, hrd4⟩ := O4.out.form
      clear hB4 O2 HB2 HN hrd4
      cases k1
      · have HE := Lib.hid (HBAD.out (.inl rfl))
        clear HBAD HG2
        go_wp2_with fail
        go_ret2
        exact ⟨_, [], false, rfl, HE.out, own_nilS _ _, HB4.out⟩
      cases nb
      · have HE := Lib.hid (HBAD.out (.inr (.inl rfl)))
        clear HBAD HG2
        go_wp2_with fail
        go_ret2
        exact ⟨_, [], false, rfl, HE.out, own_nilS _ _, HB4.out⟩
      by_cases hnt : tail.size < nv
      · have HE := Lib.hid (HBAD.out (.inr (.inr (.inl (by omega)))))
        clear HBAD HG2
        go_wp2_with fail
        go_ret2
        exact ⟨_, [], false, rfl, HE.out, own_nilS _ _, HB4.out⟩
      by_cases h60 : l.length = 60
      · have HE := Lib.hid (HBAD.out (.inr (.inr (.inr h60))))
        have h60' : ((l.length : Int) == 60) = true := by simp; omega
        clear HBAD HG2 h60
        go_wp2_with fail
        go_ret2
        exact ⟨_, [], false, rfl, HE.out, own_nilS _ _, HB4.out⟩
      · have h60' : ((l.length : Int) == 60) = false := by simp; omega
        obtain ⟨g1, g2⟩ := HG2.out rfl rfl (by omega)
        have HG := Lib.hid g1
        have hez : (tail.extract 0 nv).size ≤ 1048576 := by rw [ByteArray.size_extract]; omega
        have het : (tail.extract nv tail.size).size ≤ 2048 := by rw [ByteArray.size_extract]; omega
        have HCL := Lib.hid (fun w => sclone_any (tail.extract 0 nv) w hez)
        clear HBAD HG2 g1 hez
        have K1 := Lib.hid (And.intro (show (l.length + 1) * 16 ≤ 140737488355328 by omega) (show l.length + 1 ≤ maxLen by unfold maxLen; omega))
        go_wp2_with fail
        refine Calls.mono (HCL.out _) ?_
        rintro e w5 ⟨rfl, hB5⟩
        have HB5 := Lib.hid (below_below HB4.out hB5)
        have O5 := Lib.hid (O4.out.below hB5)
        clear hB5 O4 HB4 HCL
        go_wp2_with (at_builtin; refine wpList_app (ys := ([tail.extract 0 nv] : List ByteArray)) elS rfl _ _ rfl (by rfl) (own_allocS O5.out _) (by rfl) rfl (rd_oneS _ _) oneS K1.out.1 K1.out.2 (below_allocS HB5.out _).size ?_; intro v6 w6 ownv grv atv; have HB6 := Lib.hid (below_grownS (below_allocS HB5.out _) (own_allocS O5.out _) grv); clear grv atv)
        go_roundw
        case rel => exact ⟨_, _, rfl, het, by simp; omega, HG, Lib.hid ownv, HB6⟩
        case measure => exact g2

theorem rec_mem_len {l : List ByteArray} : ∀ x ∈ l, x.size ≤ (recL l).length := by
  induction l with
  | nil => intro x hx; cases hx
  | cons y r ih =>
    intro x hx
    rw [recL, List.length_append]
    rcases List.mem_cons.1 hx with rfl | hx
    · have := fld_len x
      omega
    · have := ih x hx
      omega
theorem drop_len (s : ByteArray) (at_ : Nat) : (s.data.toList.drop at_).length = s.size - at_ := by
  rw [List.length_drop, Array.length_toList]
  rfl
theorem drop_byte_at (s : ByteArray) (at_ k j : Nat) (hj : at_ + k = j) (h : j < s.size) : (s.data.toList.drop at_)[k]? = some s[j] := by
  subst hj
  have h' : at_ + k < s.data.toList.length := by rw [Array.length_toList]; exact h
  rw [List.getElem?_drop, List.getElem?_eq_getElem h']
  rfl
theorem ext_mid (s : ByteArray) (a n : Nat) : (s.extract a (a + n)).data.toList = (s.data.toList.drop a).take n := by
  rw [ByteArray.data_extract]
  simp only [Array.toList_extract]
  rw [List.extract_eq_take_drop]
  congr 1
  omega
set_option maxHeartbeats 4000000 in
theorem specFieldsGet_any (w : World) (s : ByteArray) (hs : s.size ≤ 1048576) : Calls Tryz.prog 7 #[.string s] w (GetR w s) := by
  by_cases hbig : 2048 < s.size
  · have HE := Lib.hid (rec_long_bad hbig)
    have O1 := Lib.hid (Own.empty (enc := encS) (sz := 1) (T := 9) (w := w) (Nat.le_refl w.heap.size))
    have HBa := Lib.hid (below_alloc (Below.refl w.heap.size w) (.cells #[] 9))
    have HP := Lib.hid (specFieldsPut_any (w.alloc (.cells #[] 9)) (some ⟨w.heap.size, 0, none⟩) 0 [] RdT.none_ (Nat.le_refl _) (by omega) (fun x hx => by cases hx))
    unfold PutR at HP
    have hre : recX [] = ⟨#[]⟩ := by simp [recX, recB, recL, recT, ofL]
    have hrb : recB [] = true := by simp [recB, recL]
    rw [hre, hrb] at HP
    have hne : ((⟨#[]⟩ : ByteArray).toList == s.toList) = false := by
      rw [Lib.toList_data, Lib.toList_data]
      have h3 : s.data.toList.length = s.size := Array.length_toList
      cases hd : s.data.toList with
      | nil => rw [hd] at h3; simp at h3; omega
      | cons b r => rfl
    have hs2 : s.toList.isEmpty = false := by
      rw [Lib.toList_data]
      have h3 : s.data.toList.length = s.size := Array.length_toList
      cases hd : s.data.toList with
      | nil => rw [hd] at h3; simp at h3; omega
      | cons b r => rfl
    have hb2 : ¬ (s.size : Int) ≤ 2048 := by omega
    clear hre hrb
    go_enter Tryz.func7, Tryz.ntmps7
    go_wp2_with fail
    go_loopw [4, 5] (fun x i wr => i = .int .i64 (0 : Nat) ∧ x = .slice (some ⟨w.heap.size, 0, none⟩) 0 0 ∧ wr = w.alloc (.cells #[] 9)) (fun _ _ _ => 0)
    case atStart => exact ⟨rfl, rfl, rfl⟩
    case round =>
      obtain ⟨rfl, rfl, rfl⟩ := hrel
      go_wp2_with fail
      refine Calls.mono HP.out ?_
      rintro e w2 ⟨rfl, hB2⟩
      have HB2 := Lib.hid (below_below HBa.out hB2)
      have hs2 := HB2.out.size
      clear hB2
      go_wp2_with fail
      go_ret2
      exact ⟨_, [], false, rfl, HE.out, Own.empty hs2, below_alloc HB2.out _⟩
  have O1 := Lib.hid (Own.empty (enc := encS) (sz := 1) (T := 9) (w := w) (Nat.le_refl w.heap.size))
  have HBa := Lib.hid (below_alloc (Below.refl w.heap.size w) (.cells #[] 9))
  have hb2 : (s.size : Int) ≤ 2048 := by omega
  go_enter Tryz.func7, Tryz.ntmps7
  go_wp2_with fail
  go_loopw [4, 5] (fun x i wr => ∃ (l : List ByteArray) (a : Nat), i = .int .i64 a ∧ a ≤ s.size ∧ l.length ≤ a ∧ Hid (RecAt s.data.toList l (s.data.toList.drop a)) ∧ Hid (Own encS 1 9 w.heap.size wr x l) ∧ Hid (Below w.heap.size w wr)) (fun _ i _ => s.size - (intOf i).toNat)
  case atStart => exact ⟨[], 0, rfl, Nat.zero_le _, Nat.le_refl _, Lib.hid (by simpa using recAt_start s.data.toList), O1, HBa⟩
  case round =>
    clear O1 HBa
    obtain ⟨l, a, rfl, ha, hla, HA, HO, HB⟩ := hrel
    have hwr := HB.out.size
    obtain ⟨A4, c4, rfl, hc4, hm4, _, hrd4⟩ := HO.out.form
    have HR4 := Lib.hid hrd4
    clear hrd4
    by_cases hlt : a < s.size
    · have hqd := ext_drop s a
      have hqs : (s.extract a s.size).size = s.size - a := by rw [ByteArray.size_extract]; omega
      have hRl := drop_len s a
      have hRne : s.data.toList.drop a ≠ [] := fun e => by rw [e] at hRl; simp at hRl; omega
      have HBAD := Lib.hid (specRec_bad HA.out hRne (s.extract a s.size) hqd)
      rw [hRl] at HBAD
      have hbd := l1_bounds (s.extract a s.size)
      have HL := Lib.hid (fun w => l1Num_any (s.extract a s.size) w (by omega))
      obtain ⟨n, hn⟩ : ∃ n : Nat, l1N (s.extract a s.size) = (n : Int) := ⟨(l1N (s.extract a s.size)).toNat, by omega⟩
      have HGOOD := Lib.hid (fun k hk h1 h2 e he h3 => specRec_good HA.out (s.extract a s.size) hqd (n := n) (k := k) hn hk h1 h2 e he h3)
      rw [hn] at HL HBAD hbd
      rw [hqs] at hbd
      generalize l1K (s.extract a s.size) = k at *
      obtain ⟨j, hj⟩ : ∃ j, a + k = j := ⟨_, rfl⟩
      have hji : (a : Int) + (k : Int) = (j : Int) := by omega
      have HC := Lib.hid (fun h => drop_byte_at s a k j hj h)
      clear hqd hn hqs hRne HA
      go_wp2_with fail
      refine Calls.mono (HL.out _) ?_
      rintro e w2 ⟨rfl, rfl⟩
      by_cases h1 : k = 0
      · have HE := Lib.hid (HBAD.out (.inl h1))
        have h1' : ((k : Int) == 0) = true := by simp; omega
        clear HBAD HGOOD HC h1
        go_wp2_with fail
        go_ret2
        exact ⟨_, [], false, rfl, HE.out, Own.empty hwr, below_alloc HB.out _⟩
      have h1' : ((k : Int) == 0) = false := by simp; omega
      by_cases h2 : s.size ≤ j
      · have HE := Lib.hid (HBAD.out (.inr (.inl (by omega))))
        clear HBAD HGOOD HC
        go_wp2_with fail
        go_ret2
        exact ⟨_, [], false, rfl, HE.out, Own.empty hwr, below_alloc HB.out _⟩
      have hjs : j < s.size := by omega
      by_cases h3 : s[j] = 58
      · have h3' : (((s[j]).toNat : Int) != 58) = false := by rw [h3]; rfl
        have h3q : ((s[j]).toNat : Int) = 58 := by rw [h3]; rfl
        by_cases h4 : s.size - j - 1 < n
        · have HE := Lib.hid (HBAD.out (.inr (.inr (.inr (by omega)))))
          clear HBAD HGOOD HC h3
          go_wp2_with fail
          go_ret2
          exact ⟨_, [], false, rfl, HE.out, Own.empty hwr, below_alloc HB.out _⟩
        · have hg := HGOOD.out k rfl h1 (by rw [HC.out hjs, h3]) (s.extract (j + 1) (j + 1 + n)) (by rw [ext_mid, List.drop_drop]; congr 2; omega) (by omega)
          have HG := Lib.hid (show RecAt s.data.toList (l ++ [s.extract (j + 1) (j + 1 + n)]) (s.data.toList.drop (j + 1 + n)) by
            rw [List.drop_drop] at hg
            rw [show j + 1 + n = a + (k + 1 + n) by omega]
            rw [show j + 1 = a + k + 1 by omega] at hg ⊢
            rw [show a + k + 1 + n = a + (k + 1 + n) by omega] at hg
            exact hg)
          have K1 := Lib.hid (And.intro (show (l.length + 1) * 16 ≤ 140737488355328 by omega) (show l.length + 1 ≤ maxLen by unfold maxLen; omega))
          clear HBAD HGOOD HC h3 hg
          go_wp2_with (at_builtin; refine wpList_app (ys := ([s.extract (j + 1) (j + 1 + n)] : List ByteArray)) elS rfl _ _ rfl (by rfl) (own_allocS HO.out _) (by rfl) rfl (rd_oneS _ _) oneS K1.out.1 K1.out.2 (below_allocS HB.out _).size ?_; intro v6 w6 ownv grv atv; have HB6 := Lib.hid (below_grownS (below_allocS HB.out _) (own_allocS HO.out _) grv); clear grv atv)
          go_roundw
          case rel => exact ⟨_, j + 1 + n, by go_num, by omega, by simp; omega, HG, Lib.hid ownv, HB6⟩
          case measure => simp [intOf]; omega
      · have h3q : ¬ ((s[j]).toNat : Int) = 58 := fun h => h3 (UInt8.toNat_inj.1 (by show (s[j]).toNat = 58; omega))
        have h3' : (((s[j]).toNat : Int) != 58) = true := by simpa using h3q
        have HE := Lib.hid (HBAD.out (.inr (.inr (.inl (by rw [HC.out hjs]; simpa using h3)))))
        clear HBAD HGOOD HC h3
        go_wp2_with fail
        go_ret2
        exact ⟨_, [], false, rfl, HE.out, Own.empty hwr, below_alloc HB.out _⟩
    · obtain rfl : a = s.size := by omega
      have hdr : s.data.toList.drop s.size = [] := List.drop_of_length_le (by rw [Array.length_toList]; exact Nat.le_refl _)
      rw [hdr] at HA
      have h1 := HA.out.1
      rw [List.append_nil] at h1
      have hrl := congrArg List.length h1
      have h3 : s.data.toList.length = s.size := Array.length_toList
      obtain ⟨e1, e2⟩ := recAt_end HA.out
      have HP := Lib.hid (specFieldsPut_any _ A4 c4 l HR4.out hc4 hm4 (fun x hx => by have := rec_mem_len x hx; omega))
      unfold PutR at HP
      cases hrb : recB l
      · have HE := Lib.hid (e2 hrb)
        rw [hrb] at HP
        generalize recX l = RX at *
        clear e1 e2 hrb h1 hrl h3 hdr HA
        go_wp2_with fail
        refine Calls.mono HP.out ?_
        rintro e w2 ⟨rfl, hB2⟩
        have HB2 := Lib.hid (below_below HB.out hB2)
        have hw2 := HB2.out.size
        clear hB2
        go_wp2_with fail
        go_ret2
        exact ⟨_, [], false, rfl, HE.out, Own.empty hw2, below_alloc HB2.out _⟩
      · have HE := Lib.hid (e1 hrb)
        have hrx : recX l = s := by rw [recX_yes hrb]; exact ofL_ext (by rw [recT, ofL_data, h1])
        rw [hrb, hrx] at HP
        have hq : (s.toList == s.toList) = true := by simp
        clear e1 e2 hrb h1 hrl h3 hdr HA hrx
        go_wp2_with fail
        refine Calls.mono HP.out ?_
        rintro e w2 ⟨rfl, hB2⟩
        have HB2 := Lib.hid (below_below HB.out hB2)
        have O2 := Lib.hid (HO.out.below hB2)
        clear hB2
        go_wp2_with fail
        go_ret2
        exact ⟨_, l, true, rfl, HE.out, O2.out, HB2.out⟩

end Go.Proofs.YthedmiippfpbnaaGreatDoor
