/- The pointer that a text is the text of: both texts' walks. -/
import Derived.Test.YthedmiippfpbnaaGreatDoorPtrPut2
import Derived.Test.YthedmiippfpbnaaGreatDoorFieldsGet
import Derived.Test.YthedmiippfpbnaaGreatDoorPathImpl2
import Derived.Deep.RegionHeld3
namespace Go.Proofs.YthedmiippfpbnaaGreatDoor
open Go.RowKit Go.Sort
set_option maxRecDepth 100000
set_option linter.unusedVariables false
set_option linter.unusedSimpArgs false

theorem below_set5P {w W : World} (h : Below w.heap.size w W) {b : Nat} (hb : w.heap.size ≤ b) (v0 v1 v2 v3 v4 : Value) : Below w.heap.size w (((((W.setCell ⟨b, 0, none⟩ v0).setCell ⟨b, 1, none⟩ v1).setCell ⟨b, 2, none⟩ v2).setCell ⟨b, 3, none⟩ v3).setCell ⟨b, 4, none⟩ v4) :=
  below_set (below_set (below_set (below_set (below_set h (p := ⟨b, 0, none⟩) hb v0) (p := ⟨b, 1, none⟩) hb v1) (p := ⟨b, 2, none⟩) hb v2) (p := ⟨b, 3, none⟩) hb v3) (p := ⟨b, 4, none⟩) hb v4
theorem ne_text {s t : ByteArray} (h : ¬ s = t) : (s.toList == t.toList) = false := by
  cases he : (s.toList == t.toList)
  · rfl
  · rw [beq_iff_eq, Lib.toList_data, Lib.toList_data] at he
    exact absurd (ofL_ext he) h
theorem ne_dash {s : ByteArray} (h : ¬ s = ⟨#[45]⟩) : (s.toList == [45]) = false := by
  cases he : (s.toList == [45])
  · rfl
  · rw [beq_iff_eq, Lib.toList_data] at he
    exact absurd (ofL_ext (by rw [he])) h
theorem five_ofP {l : List ByteArray} (h : l.length = 5) : ∃ a b c d e, l = [a, b, c, d, e] := by
  match l, h with
  | [a, b, c, d, e], _ => exact ⟨a, b, c, d, e, rfl⟩
def GetP (w : World) (s : ByteArray) (e : Ending) (w' : World) : Prop := ∃ (p : Pt) (b : Bool), e = .returned (.tuple #[p.v, .bool b]) ∧ PtrG s p b ∧ Below w.heap.size w w'
def zero5 : Array Value := #[.int .i64 0, .int .i64 0, .int .i64 0, .int .i64 0, .int .i64 0]

theorem ptrT_dataG {p : Pt} (h : ptrB p = true) : (ptrT p).data.toList = ptrL p := by rw [ptrT, if_pos h, ofL_data]
theorem ptrG_put5 {s : ByteArray} (hs : s ≠ ⟨#[45]⟩) {a b c d e : ByteArray} (h : cutB 46 s = [a, b, c, d, e]) (ha : numB a = true) (hb : numB b = true) (hc : numB c = true) (hd : numB d = true) (he : numB e = true) :
    (ptrT ⟨numV a, numV b, numV c, numV d, numV e⟩ = s → PtrG s ⟨numV a, numV b, numV c, numV d, numV e⟩ true) ∧ (¬ ptrT ⟨numV a, numV b, numV c, numV d, numV e⟩ = s → PtrG s hole false) := by
  obtain ⟨h1, h2⟩ := ptrG_five hs h ha hb hc hd he
  constructor
  · intro hT
    cases hp : ptrB ⟨numV a, numV b, numV c, numV d, numV e⟩
    · rw [ptrT, if_neg (by simp [hp])] at hT
      rw [← hT] at h
      have h5 : (cutB 46 ⟨#[]⟩).length = 5 := by rw [h]; rfl
      exact absurd h5 (by decide)
    · exact .inl ⟨rfl, hp, by rw [← hT, ptrT_dataG hp]⟩
  · intro hT
    refine h2 fun hh => hT ?_
    rcases h1 hh with ⟨_, h3, h4⟩ | ⟨h3, _⟩
    · exact ofL_ext (by rw [ptrT_dataG h3, h4])
    · cases h3
/-- The numbers that were read so far, in the pointer's cells. -/
def pcell (xs : List ByteArray) (k j : Nat) : Value := .int .i64 (if j < k then numV (xs.getD j ⟨#[]⟩) else 0)
def p5 (xs : List ByteArray) (k : Nat) : Array Value := #[pcell xs k 0, pcell xs k 1, pcell xs k 2, pcell xs k 3, pcell xs k 4]
theorem p5_put {xs : List ByteArray} {k : Nat} {t : ByteArray} (hk : k < 5) (ht : xs[k]? = some t) : (p5 xs k).setIfInBounds k (.int .i64 (numV t)) = p5 xs (k + 1) := by
  rcases (show k = 0 ∨ k = 1 ∨ k = 2 ∨ k = 3 ∨ k = 4 by omega) with rfl | rfl | rfl | rfl | rfl <;> simp [p5, pcell, List.getD_eq_getElem?_getD, ht]
theorem p5_at {xs : List ByteArray} {k : Nat} (hk : k < 5) : (p5 xs k)[k]? = some (.int .i64 0) := by
  rcases (show k = 0 ∨ k = 1 ∨ k = 2 ∨ k = 3 ∨ k = 4 by omega) with rfl | rfl | rfl | rfl | rfl <;> simp [p5, pcell]
theorem p5_zero (xs : List ByteArray) : p5 xs 0 = zero5 := by simp [p5, pcell, zero5]
def ptrs5 (b : Nat) : Array Value := #[.pointer (some ⟨b, 0, none⟩), .pointer (some ⟨b, 1, none⟩), .pointer (some ⟨b, 2, none⟩), .pointer (some ⟨b, 3, none⟩), .pointer (some ⟨b, 4, none⟩)]
theorem ptrs5_at {b k : Nat} (hk : k < 5) : (ptrs5 b)[k]? = some (.pointer (some ⟨b, k, none⟩)) := by
  rcases (show k = 0 ∨ k = 1 ∨ k = 2 ∨ k = 3 ∨ k = 4 by omega) with rfl | rfl | rfl | rfl | rfl <;> rfl
structure PGRel (w : World) (pp : Nat) (A : Option Addr) (xs : List ByteArray) (k : Nat) (wr : World) : Prop where
  res : BoxAt wr w.heap.size zero5 23
  p : BoxAt wr (w.heap.size + 1) (p5 xs k) 23
  parts : BoxAt wr pp (ptrs5 (w.heap.size + 1)) 41
  rd : RdT encS 1 wr A xs
  bel : Below w.heap.size w wr
  ok : ∀ j t, j < k → xs[j]? = some t → numB t = true
theorem PGRel.below {w wr w' : World} {pp k : Nat} {A : Option Addr} {xs : List ByteArray} (h : PGRel w pp A xs k wr) (hB : Below wr.heap.size wr w') : PGRel w pp A xs k w' :=
  ⟨h.res.below hB, h.p.below hB, h.parts.below hB, h.rd.below hB, below_below h.bel hB, h.ok⟩
theorem PGRel.next {w wr : World} {pp k : Nat} {A : Option Addr} {xs : List ByteArray} {t : ByteArray} (h : PGRel w pp A xs k wr) (hk : k < 5) (ht : xs[k]? = some t) (hn : numB t = true) (hpp : w.heap.size + 1 < pp) (hA : ∀ a, A = some a → w.heap.size + 1 < a.block) :
    PGRel w pp A xs (k + 1) (wr.setCell ⟨w.heap.size + 1, k, none⟩ (.int .i64 (numV t))) := by
  have hK : Kp [w.heap.size + 1] wr (wr.setCell ⟨w.heap.size + 1, k, none⟩ (.int .i64 (numV t))) := (Kp.refl _ wr).setCell (.inl (by simp)) _
  refine ⟨h.res.kp hK (by simp), ?_, h.parts.kp hK (by simp; omega), h.rd.kp hK (fun _ a ha => by have := hA a ha; simp; omega), below_set h.bel (by dsimp only; omega) _, fun j u hj hu => ?_⟩
  · have := box_putB h.p k (.int .i64 (numV t))
    rwa [p5_put hk ht] at this
  · rcases Nat.lt_or_ge j k with h' | h'
    · exact h.ok j u h' hu
    · obtain rfl : j = k := by omega
      rw [ht] at hu
      cases hu
      exact hn

theorem splitDot_any (w : World) (s : ByteArray) (hM : MaxAt w) (hs : s.size ≤ 1048576) : Calls Tryz.prog 46 #[.string s, .string ⟨#[46]⟩] w (SPost w (cutB 46 s)) := by
  obtain ⟨m, hm⟩ := hM
  have HS := Tryz.strings_Split s ⟨#[46]⟩ m w (by omega) hm (by decide)
  have hcnt : Lib.countB s ⟨#[46]⟩ + 1 = (cutB 46 s).length := by
    rw [← splitB_cut, Lib.splitB_all _ (by decide) 0 _ _ rfl]
  rw [splitB_cut, hcnt] at HS
  have hl := (cutB_len 46 s).1
  refine HS.mono ?_
  rintro e w' ⟨rfl, rfl⟩
  exact ⟨_, rfl, own_split (base := w.heap.size) (cutB 46 s) (Nat.le_refl _) (by unfold maxLen; omega), (Below.refl _ _).alloc (Nat.le_refl _) _⟩
set_option maxHeartbeats 4000000 in
theorem ptrGet_any (w : World) (s : ByteArray) (hM : MaxAt w) (hT : TenAt w) (hE : ErrAt w) (hs : s.size ≤ 1048576) : Calls Tryz.prog 31 #[.string s] w (GetP w s) := by
  have BX := Lib.hid (box_new w #[.int .i64 0, .int .i64 0, .int .i64 0, .int .i64 0, .int .i64 0] 23)
  have HBa := Lib.hid (below_alloc (Below.refl w.heap.size w) (.cells #[.int .i64 0, .int .i64 0, .int .i64 0, .int .i64 0, .int .i64 0] 23))
  by_cases hd : s = ⟨#[45]⟩
  · subst hd
    clear hM hT hE
    go_enter Tryz.func31, Tryz.ntmps31
    go_wp2_with fail
    refine bodyPost_ret (v := .tuple #[.agg #[.int .i64 0, .int .i64 0, .int .i64 0, .int .i64 0, .int .i64 0], .bool true]) (by simp [results, Tryz.results31, go_sem]) rfl ⟨hole, true, rfl, ptrG_dash, ?_⟩
    exact HBa.out
  have q0 := ne_dash hd
  have HD := Lib.hid hd
  have LB := Lib.hid (And.intro hM (And.intro hT hE))
  have HS := Lib.hid (fun W (hB : Below w.heap.size w W) => splitDot_any W s (hM.below hB) hs)
  have HX := Lib.hid (cutB_len 46 s)
  have HL := Lib.hid (ptrG_len hd)
  clear hM hT hE hd
  have hsz1 : (w.alloc (.cells #[.int .i64 0, .int .i64 0, .int .i64 0, .int .i64 0, .int .i64 0] 23)).heap.size = w.heap.size + 1 := World.size_alloc _ _
  have BXp := Lib.hid (box_new (w.alloc (.cells #[.int .i64 0, .int .i64 0, .int .i64 0, .int .i64 0, .int .i64 0] 23)) #[.int .i64 0, .int .i64 0, .int .i64 0, .int .i64 0, .int .i64 0] 23)
  rw [hsz1] at BXp
  have BX2 := Lib.hid (BX.out.alloc (.cells #[.int .i64 0, .int .i64 0, .int .i64 0, .int .i64 0, .int .i64 0] 23))
  have HB2 := Lib.hid (below_alloc HBa.out (.cells #[.int .i64 0, .int .i64 0, .int .i64 0, .int .i64 0, .int .i64 0] 23))
  clear BX HBa hsz1
  generalize hxs : cutB 46 s = xs at *
  have HXS := Lib.hid hxs
  clear hxs
  go_enter Tryz.func31, Tryz.ntmps31
  go_wp2_with fail
  refine Calls.mono (HS.out _ HB2.out) ?_
  rintro e w3 ⟨v3, rfl, own3, hB⟩
  have hsz2 : w.heap.size + 1 < w3.heap.size := by have := BXp.out.lt; have := hB.size; omega
  obtain ⟨A, c, rfl, hc, hcm, hA, hrd⟩ := own3.form
  have HA := Lib.hid (show ∀ a, A = some a → w.heap.size + 1 < a.block from fun a ha => by have := (hA a ha).1; have := BXp.out.lt; omega)
  have R3 := Lib.hid hrd
  have BX3 := Lib.hid (BX2.out.below hB)
  have BP3 := Lib.hid (BXp.out.below hB)
  have HB3 := Lib.hid (below_below HB2.out hB)
  clear hA hrd own3 hB BX2 BXp HB2 HS
  have HPA := Lib.hid (parts_any w3 (w.heap.size + 1) (by omega))
  go_wp2_with fail
  refine Calls.mono HPA.out ?_
  rintro e w4 ⟨rfl, hP, hB⟩
  have HR := Lib.hid (show PGRel w w3.heap.size A xs 0 w4 from ⟨BX3.out.below hB, by rw [p5_zero]; exact BP3.out.below hB, hP, R3.out.below hB, below_below HB3.out hB, fun j t hj => by omega⟩)
  clear hP hB BX3 BP3 R3 HB3 HPA
  by_cases h5 : xs.length = 5
  · have HFV := Lib.hid h5
    rw [h5] at hc
    have HSZ := Lib.hid (show ∀ x ∈ xs, x.size ≤ 9223372036854775807 from fun x hx => by have := HX.out.2 x hx; omega)
    clear HX HL
    have bx4 := HR.out.res.cell
    have bf4 := HR.out.res.froz
    have hl4 := HR.out.res.lt
    rw [h5]
    clear h5
    go_wp2_with fail
    clear bx4 bf4 hl4
    go_loopw [25] (fun y wr => ∃ k : Nat, k ≤ 5 ∧ y = .int .i64 k ∧ Hid (PGRel w w3.heap.size A xs k wr)) (fun y _ => 5 - (intOf y).toNat)
    case atStart => exact ⟨0, Nat.zero_le _, rfl, HR⟩
    case round =>
      clear HR
      obtain ⟨k, hk5, rfl, HG⟩ := hrel
      by_cases hlt : k < 5
      · obtain ⟨b, off, t, rfl, hb, ht, ct⟩ := HG.out.rd.strs (k := k) (by rw [HFV.out]; exact hlt)
        have HN := Lib.hid (numGet_any t wr (LB.out.2.1.below HG.out.bel) (LB.out.2.2.below HG.out.bel) (HSZ.out t (List.mem_of_getElem? ht)))
        have HE := Lib.hid (fun hn => ptrG_num HD.out (i := k) (t := t) (by rw [HXS.out]; exact ht) hn)
        have HNX := Lib.hid (fun wx (h : PGRel w w3.heap.size (some ⟨b, off, none⟩) xs k wx) hn => h.next hlt ht hn hsz2 HA.out)
        have k2 : IntKind.i64.wrap ((k : Int) + 1) = (k : Int) + 1 := IntWalk.i64_in _ (by omega)
        clear ht HFV HXS HSZ
        generalize numV t = V at *
        generalize numB t = B at *
        go_wp2_with fail
        refine Calls.mono HN.out ?_
        rintro e w5 ⟨rfl, hB⟩
        have HG5 := Lib.hid (HG.out.below hB)
        clear hB HG HN ct
        cases B
        · replace HE := Lib.hid (HE.out rfl)
          have bx5 := HG5.out.res.cell
          have bf5 := HG5.out.res.froz
          have hl5 := HG5.out.res.lt
          simp only [zero5] at bx5
          clear HNX
          go_wp2_with fail
          refine bodyPost_ret (v := .tuple #[.agg #[.int .i64 0, .int .i64 0, .int .i64 0, .int .i64 0, .int .i64 0], .bool false]) (by simp [results, Tryz.results31, go_sem, bx5, hl5]) rfl ⟨hole, false, rfl, HE.out, ?_⟩
          exact below_set5P HG5.out.bel (Nat.le_refl _) _ _ _ _ _
        · replace HNX := Lib.hid (fun wx h => HNX.out wx h rfl)
          clear HE
          have e1 : w5.cell? ⟨w3.heap.size, k, none⟩ = some (.pointer (some ⟨w.heap.size + 1, k, none⟩)) := (HG5.out.parts.cell k).trans (ptrs5_at hlt)
          have e2 : w5.cell? ⟨w.heap.size + 1, k, none⟩ = some (.int .i64 0) := (HG5.out.p.cell k).trans (p5_at hlt)
          have e3 : w5.frozen? ⟨w.heap.size + 1, k, none⟩ = false := HG5.out.p.froz k
          go_wp2_with fail
          exact ⟨⟨k + 1, by omega, rfl, Lib.hid (HNX.out _ HG5.out)⟩, by simp [intOf]; omega⟩
      · obtain rfl : k = 5 := by omega
        have HB5 := Lib.hid HG.out.bel
        obtain ⟨f0, f1, f2, f3, f4, rfl⟩ := five_ofP HFV.out
        have BP5 := Lib.hid (show BoxAt wr (w.heap.size + 1) #[.int .i64 (numV f0), .int .i64 (numV f1), .int .i64 (numV f2), .int .i64 (numV f3), .int .i64 (numV f4)] 23 from HG.out.p)
        have BX5 := Lib.hid HG.out.res
        have G2 := ptrG_put5 HD.out HXS.out (HG.out.ok 0 f0 (by omega) rfl) (HG.out.ok 1 f1 (by omega) rfl) (HG.out.ok 2 f2 (by omega) rfl) (HG.out.ok 3 f3 (by omega) rfl) (HG.out.ok 4 f4 (by omega) rfl)
        have G1 := Lib.hid G2.1
        replace G2 := Lib.hid G2.2
        have HPP := Lib.hid (ptrPut_any wr ⟨numV f0, numV f1, numV f2, numV f3, numV f4⟩ (LB.out.2.1.below HB5.out))
        unfold Pt.v at HPP
        dsimp only at HPP
        generalize ptrT ⟨numV f0, numV f1, numV f2, numV f3, numV f4⟩ = T at *
        generalize numV f0 = v0 at *
        generalize numV f1 = v1 at *
        generalize numV f2 = v2 at *
        generalize numV f3 = v3 at *
        generalize numV f4 = v4 at *
        clear HG HXS HSZ HFV
        have bp5 := BP5.out.cell
        have hl5 := BP5.out.lt
        go_wp2_with fail
        refine Calls.mono HPP.out ?_
        rintro e w6 ⟨rfl, hB⟩
        have HB6 := Lib.hid (below_below HB5.out hB)
        have BX6 := Lib.hid (BX5.out.below hB)
        have BP6 := Lib.hid (BP5.out.below hB)
        have bp6 := BP6.out.cell
        have hp6 := BP6.out.lt
        have bx6 := BX6.out.cell
        have bf6 := BX6.out.froz
        have hl6 := BX6.out.lt
        simp only [zero5] at bx6
        clear hB bp5 hl5 HB5 BX5 BP5 HPP
        by_cases hTs : T = s
        · have HE := Lib.hid (G1.out hTs)
          have hq : (T.toList == s.toList) = true := by rw [hTs]; simp
          clear hTs G1 G2
          go_wp2_with fail
          refine bodyPost_ret (v := .tuple #[.agg #[.int .i64 v0, .int .i64 v1, .int .i64 v2, .int .i64 v3, .int .i64 v4], .bool true]) (by simp [results, Tryz.results31, go_sem, bx6, hl6]) rfl ⟨⟨v0, v1, v2, v3, v4⟩, true, rfl, HE.out, ?_⟩
          exact below_set5P HB6.out (Nat.le_refl _) _ _ _ _ _
        · have HE := Lib.hid (G2.out hTs)
          have hq := ne_text hTs
          clear hTs G1 G2
          go_wp2_with fail
          refine bodyPost_ret (v := .tuple #[.agg #[.int .i64 0, .int .i64 0, .int .i64 0, .int .i64 0, .int .i64 0], .bool false]) (by simp [results, Tryz.results31, go_sem, bx6, hl6]) rfl ⟨hole, false, rfl, HE.out, ?_⟩
          exact below_set5P HB6.out (Nat.le_refl _) _ _ _ _ _
  · have HE := Lib.hid (HL.out h5)
    have h5' : ((xs.length : Int) != 5) = true := by simp; omega
    have bx4 := HR.out.res.cell
    have bf4 := HR.out.res.froz
    have hl4 := HR.out.res.lt
    have HB4 := Lib.hid HR.out.bel
    simp only [zero5] at bx4
    clear h5 HL HX HR
    go_wp2_with fail
    refine bodyPost_ret (v := .tuple #[.agg #[.int .i64 0, .int .i64 0, .int .i64 0, .int .i64 0, .int .i64 0], .bool false]) (by simp [results, Tryz.results31, go_sem, bx4, hl4]) rfl ⟨hole, false, rfl, HE.out, ?_⟩
    exact below_set5P HB4.out (Nat.le_refl _) _ _ _ _ _
theorem rd_oneNP (w : World) (n : Int) : RdT encN 1 (w.alloc (.cells #[.int .i64 n] 3)) (some ⟨w.heap.size, 0, none⟩) [n] := fun _ => ⟨w.heap.size, 0, rfl, by simp, fun i x hx j hj => by
  have : i = 0 := by
    rcases i with _ | i
    · rfl
    · simp at hx
  subst this
  simp at hx
  subst hx
  obtain rfl : j = 0 := by omega
  unfold World.cell?
  simp only [heap_alloc_new]
  simp [encN]⟩
theorem cell_allocdP {w : World} {b o : Nat} (h : b < w.heap.size) (x : Obj) : (w.alloc x).drew.cell? ⟨b, o, none⟩ = w.cell? ⟨b, o, none⟩ := World.cell?_of_block (w := w) (a := ⟨b, o, none⟩) (Below.heap_alloc _ _ _ h)
theorem own_nilN {base : Nat} {w : World} {v : Value} {xs ys : List Int} (h : Own encN 1 3 base w v xs) (e : xs = ys) : Own encN 1 3 base w v ys := e ▸ h
theorem own_allocN {base : Nat} {w : World} {v : Value} {xs : List Int} (h : Own encN 1 3 base w v xs) (o : Obj) : Own encN 1 3 base (w.alloc o) v xs := h.below ((Below.refl _ _).alloc (Nat.le_refl _) o)
def SGRel (w2 : World) (xs : List ByteArray) (k : Nat) (v : Value) (wr : World) : Prop :=
  Own encN 1 3 w2.heap.size wr v ((xs.take k).map numV) ∧ Below w2.heap.size w2 wr ∧ ∀ j t, j < k → xs[j]? = some t → numB t = true
set_option maxHeartbeats 4000000 in
theorem specPtrGet_any (w : World) (s : ByteArray) (hs : s.size ≤ 1048576) : Calls Tryz.prog 9 #[.string s] w (GetP w s) := by
  have BX := Lib.hid (box_new w #[.int .i64 0, .int .i64 0, .int .i64 0, .int .i64 0, .int .i64 0] 23)
  have HBa := Lib.hid (below_alloc (Below.refl w.heap.size w) (.cells #[.int .i64 0, .int .i64 0, .int .i64 0, .int .i64 0, .int .i64 0] 23))
  by_cases hd : s = ⟨#[45]⟩
  · subst hd
    go_enter Tryz.func9, Tryz.ntmps9
    go_wp2_with fail
    refine bodyPost_ret (v := .tuple #[.agg #[.int .i64 0, .int .i64 0, .int .i64 0, .int .i64 0, .int .i64 0], .bool true]) (by simp [results, Tryz.results9, go_sem]) rfl ⟨hole, true, rfl, ptrG_dash, ?_⟩
    exact HBa.out
  have q0 := ne_dash hd
  have HD := Lib.hid hd
  have HS := Lib.hid (fun W => (show Calls Tryz.prog 19 #[.string s, .int .u8 46] W (SPost W (cutB 46 s)) from l2Cut_any W s 46 hs))
  have HX := Lib.hid (cutB_len 46 s)
  have HL := Lib.hid (ptrG_len hd)
  clear hd
  generalize hxs : cutB 46 s = xs at *
  have HXS := Lib.hid hxs
  clear hxs
  go_enter Tryz.func9, Tryz.ntmps9
  go_wp2_with fail
  refine Calls.mono (HS.out _) ?_
  rintro e w2 ⟨v2, rfl, own2, hB⟩
  obtain ⟨A, c, rfl, hc, hcm, hA, hrd⟩ := own2.form
  have R2 := Lib.hid hrd
  have BX2 := Lib.hid (BX.out.below hB)
  have HB2 := Lib.hid (below_below HBa.out hB)
  clear hA hrd own2 hB BX HBa HS
  by_cases h5 : xs.length = 5
  · have HFV := Lib.hid h5
    have HSZ := Lib.hid (show ∀ x ∈ xs, x.size ≤ 9223372036854775807 from fun x hx => by have := HX.out.2 x hx; omega)
    rw [h5] at hc
    clear HX HL
    rw [h5]
    clear h5
    go_wp2_with fail
    go_loopw [5, 6] (fun v y wr => ∃ k : Nat, k ≤ 5 ∧ y = .int .i64 k ∧ Hid (SGRel w2 xs k v wr)) (fun v y _ => 5 - (intOf y).toNat)
    case atStart => exact ⟨0, Nat.zero_le _, rfl, Lib.hid ⟨Own.empty (Nat.le_refl _), (Below.refl _ _).alloc (Nat.le_refl _) _, fun j t hj => by omega⟩⟩
    case round =>
      obtain ⟨k, hk5, rfl, HG⟩ := hrel
      by_cases hlt : k < 5
      · obtain ⟨b, off, t, rfl, hb, ht, ct⟩ := (R2.out.below HG.out.2.1).strs (k := k) (by rw [HFV.out]; exact hlt)
        have HN := Lib.hid (specNumGet_any t wr (HSZ.out t (List.mem_of_getElem? ht)))
        have HE := Lib.hid (fun hn => ptrG_num HD.out (i := k) (t := t) (by rw [HXS.out]; exact ht) hn)
        have HOK := Lib.hid (fun (hn : numB t = true) => (show ∀ j u, j < k + 1 → xs[j]? = some u → numB u = true from fun j u hj hu => by
          rcases Nat.lt_or_ge j k with h' | h'
          · exact HG.out.2.2 j u h' hu
          · obtain rfl : j = k := by omega
            rw [ht] at hu
            cases hu
            exact hn))
        have k2 : IntKind.i64.wrap ((k : Int) + 1) = (k : Int) + 1 := IntWalk.i64_in _ (by omega)
        have hlk : ((xs.take k).map numV).length = k := by have := HFV.out; simp; omega
        have K1 := Lib.hid (And.intro (show (((xs.take k).map numV).length + 1) * 8 ≤ 140737488355328 by omega) (show ((xs.take k).map numV).length + 1 ≤ maxLen by unfold maxLen; omega))
        have HZ := Lib.hid (show (xs.take k).map numV ++ [numV t] = (xs.take (k + 1)).map numV by rw [List.take_add_one, ht]; simp)
        have HO := Lib.hid HG.out.1
        have HBr := Lib.hid HG.out.2.1
        have BXr := Lib.hid (BX2.out.below HBr.out)
        have HBw := Lib.hid (below_below HB2.out HBr.out)
        clear ht HFV HXS HSZ hlk HG R2 BX2
        cases hn : numB t
        · rw [hn] at HN
          have bx5 := BXr.out.cell
          have bf5 := BXr.out.froz
          have hl5 := BXr.out.lt
          go_wp2_with fail
          refine Calls.mono HN.out ?_
          rintro e w5 ⟨rfl, rfl⟩
          go_wp2_with fail
          refine bodyPost_ret (v := .tuple #[.agg #[.int .i64 0, .int .i64 0, .int .i64 0, .int .i64 0, .int .i64 0], .bool false]) (by simp [results, Tryz.results9, go_sem, bx5, hl5]) rfl ⟨hole, false, rfl, HE.out hn, ?_⟩
          exact below_set5P HBw.out (Nat.le_refl _) _ _ _ _ _
        · rw [hn] at HN
          replace HOK := Lib.hid (HOK.out hn)
          clear hn HE
          go_wp2_with fail
          refine Calls.mono HN.out ?_
          rintro e w5 ⟨rfl, rfl⟩
          go_wp2_with (at_builtin; refine wpList_app (ys := ([numV t] : List Int)) elN rfl _ _ rfl (by rfl) (own_allocN HO.out _) (by rfl) rfl (rd_oneNP _ _) oneN K1.out.1 K1.out.2 (below_alloc HBr.out _).size ?_; intro v1 w4 ownv1 grv1 atv1)
          exact ⟨⟨k + 1, by omega, by go_num, Lib.hid ⟨by rw [← HZ.out]; exact ownv1, below_grown (below_alloc HBr.out _) (own_allocN HO.out _) grv1, HOK.out⟩⟩, by simp [intOf]; omega⟩
      · obtain rfl : k = 5 := by omega
        obtain ⟨f0, f1, f2, f3, f4, rfl⟩ := five_ofP HFV.out
        have HBr := Lib.hid HG.out.2.1
        have own5 : Own encN 1 3 w2.heap.size wr u5 [numV f0, numV f1, numV f2, numV f3, numV f4] := HG.out.1
        have G2 := ptrG_five HD.out HXS.out (HG.out.2.2 0 f0 (by omega) rfl) (HG.out.2.2 1 f1 (by omega) rfl) (HG.out.2.2 2 f2 (by omega) rfl) (HG.out.2.2 3 f3 (by omega) rfl) (HG.out.2.2 4 f4 (by omega) rfl)
        have G1 := Lib.hid G2.1
        replace G2 := Lib.hid G2.2
        have HPO := Lib.hid (fun W => specPtrOk_any ⟨numV f0, numV f1, numV f2, numV f3, numV f4⟩ W)
        have HPH := Lib.hid (fun W => specPtrHole_any ⟨numV f0, numV f1, numV f2, numV f3, numV f4⟩ W)
        unfold Pt.v at HPO HPH
        dsimp only at HPO HPH
        generalize ptrB ⟨numV f0, numV f1, numV f2, numV f3, numV f4⟩ = PB at *
        generalize holeB ⟨numV f0, numV f1, numV f2, numV f3, numV f4⟩ = PH at *
        generalize numV f0 = v0 at *
        generalize numV f1 = v1 at *
        generalize numV f2 = v2 at *
        generalize numV f3 = v3 at *
        generalize numV f4 = v4 at *
        have BXr := Lib.hid (BX2.out.below HBr.out)
        have HBw := Lib.hid (below_below HB2.out HBr.out)
        clear HG HXS HSZ HFV R2 BX2
        obtain ⟨A5, c5, rfl, hc5, _, _, rd5⟩ := own5.form
        obtain ⟨b5, o5, rfl, hb5, hcs⟩ := rd5 (by simp)
        have hcc : 5 ≤ c5 := hc5
        have d0 : wr.cell? ⟨b5, o5, none⟩ = some (.int .i64 v0) := hcs 0 v0 rfl 0 (by omega)
        have d1 : wr.cell? ⟨b5, o5 + 1, none⟩ = some (.int .i64 v1) := hcs 1 v1 rfl 0 (by omega)
        have d2 : wr.cell? ⟨b5, o5 + 2, none⟩ = some (.int .i64 v2) := hcs 2 v2 rfl 0 (by omega)
        have d3 : wr.cell? ⟨b5, o5 + 3, none⟩ = some (.int .i64 v3) := hcs 3 v3 rfl 0 (by omega)
        have d4 : wr.cell? ⟨b5, o5 + 4, none⟩ = some (.int .i64 v4) := hcs 4 v4 rfl 0 (by omega)
        clear hcs rd5 own5 hc5
        have hlr := BXr.out.lt
        go_wp2_with fail
        --H5
        go_region_held3 (fun w' => w'.cell? ⟨b5, o5, none⟩ = some (.int .i64 v0) ∧ w'.cell? ⟨b5, o5 + 1, none⟩ = some (.int .i64 v1) ∧ w'.cell? ⟨b5, o5 + 2, none⟩ = some (.int .i64 v2) ∧ w'.cell? ⟨b5, o5 + 3, none⟩ = some (.int .i64 v3) ∧ w'.cell? ⟨b5, o5 + 4, none⟩ = some (.int .i64 v4)) (first | go_keep | exact ⟨(cell_allocdP hb5 _).trans d0, (cell_allocdP hb5 _).trans d1, (cell_allocdP hb5 _).trans d2, (cell_allocdP hb5 _).trans d3, (cell_allocdP hb5 _).trans d4⟩)
          (first | fail)
        have hBa := Below.drew (below_alloc (Below.refl wr.heap.size wr) (.cells #[.int .i64 v0, .int .i64 v1, .int .i64 v2, .int .i64 v3, .int .i64 v4] 23))
        have BO := Lib.hid (show BoxAt (wr.alloc (.cells #[.int .i64 v0, .int .i64 v1, .int .i64 v2, .int .i64 v3, .int .i64 v4] 23)).drew wr.heap.size #[.int .i64 v0, .int .i64 v1, .int .i64 v2, .int .i64 v3, .int .i64 v4] 23 from box_new wr _ _)
        have BX4 := Lib.hid (BXr.out.below hBa)
        have HB4 := Lib.hid (below_below HBw.out hBa)
        obtain ⟨W4, hW4⟩ : ∃ W4, (wr.alloc (.cells #[.int .i64 v0, .int .i64 v1, .int .i64 v2, .int .i64 v3, .int .i64 v4] 23)).drew = W4 := ⟨_, rfl⟩
        rw [hW4] at BO BX4 HB4 ⊢
        have hl4 := BO.out.lt
        have bo4 := BO.out.cell
        clear hBa hW4 d0 d1 d2 d3 d4 BXr HBw HBr hlr
        go_wp2_with fail
        refine Calls.mono (HPO.out _) ?_
        rintro e w5 ⟨rfl, hB⟩
        have HB5 := Lib.hid (below_below HB4.out hB)
        have BX5 := Lib.hid (BX4.out.below hB)
        have BO5 := Lib.hid (BO.out.below hB)
        have bx5 := BX5.out.cell
        have bf5 := BX5.out.froz
        have hl5 := BX5.out.lt
        have bo5 := BO5.out.cell
        have ho5 := BO5.out.lt
        clear hB bo4 hl4 BX4 BO HB4 HPO
        cases PB
        · have HE := Lib.hid (G2.out (by simp))
          clear G1 G2 HPH
          go_wp2_with fail
          refine bodyPost_ret (v := .tuple #[.agg #[.int .i64 0, .int .i64 0, .int .i64 0, .int .i64 0, .int .i64 0], .bool false]) (by simp [results, Tryz.results9, go_sem, bx5, hl5]) rfl ⟨hole, false, rfl, HE.out, ?_⟩
          exact below_set5P HB5.out (Nat.le_refl _) _ _ _ _ _
        · clear bx5 bf5
          go_wp2_with fail
          refine Calls.mono (HPH.out _) ?_
          rintro e w6 ⟨rfl, hB⟩
          have HB6 := Lib.hid (below_below HB5.out hB)
          have BX6 := Lib.hid (BX5.out.below hB)
          have BO6 := Lib.hid (BO5.out.below hB)
          have bx6 := BX6.out.cell
          have bf6 := BX6.out.froz
          have hl6 := BX6.out.lt
          have bo6 := BO6.out.cell
          have ho6 := BO6.out.lt
          clear hB bo5 hl5 ho5 BX5 BO5 HB5 HPH
          cases PH
          · have HE := Lib.hid (G1.out (by simp))
            clear G1 G2
            go_wp2_with fail
            refine bodyPost_ret (v := .tuple #[.agg #[.int .i64 v0, .int .i64 v1, .int .i64 v2, .int .i64 v3, .int .i64 v4], .bool true]) (by simp [results, Tryz.results9, go_sem, bx6, hl6]) rfl ⟨⟨v0, v1, v2, v3, v4⟩, true, rfl, HE.out, ?_⟩
            exact below_set5P HB6.out (Nat.le_refl _) _ _ _ _ _
          · have HE := Lib.hid (G2.out (by simp))
            clear G1 G2
            go_wp2_with fail
            refine bodyPost_ret (v := .tuple #[.agg #[.int .i64 0, .int .i64 0, .int .i64 0, .int .i64 0, .int .i64 0], .bool false]) (by simp [results, Tryz.results9, go_sem, bx6, hl6]) rfl ⟨hole, false, rfl, HE.out, ?_⟩
            exact below_set5P HB6.out (Nat.le_refl _) _ _ _ _ _
  · have HE := Lib.hid (HL.out h5)
    have h5' : ((xs.length : Int) != 5) = true := by simp; omega
    have bx4 := BX2.out.cell
    have bf4 := BX2.out.froz
    have hl4 := BX2.out.lt
    clear h5 HL HX
    go_wp2_with fail
    refine bodyPost_ret (v := .tuple #[.agg #[.int .i64 0, .int .i64 0, .int .i64 0, .int .i64 0, .int .i64 0], .bool false]) (by simp [results, Tryz.results9, go_sem, bx4, hl4]) rfl ⟨hole, false, rfl, HE.out, ?_⟩
    exact below_set5P HB2.out (Nat.le_refl _) _ _ _ _ _

end Go.Proofs.YthedmiippfpbnaaGreatDoor
