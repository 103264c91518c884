/- Entries read out of a text: both texts' walks. -/
import Derived.Test.YtjalboplilolkaaDoorEntText
namespace Go.Proofs.YtjalboplilolkaaDoor
open Go.RowKit Go.Sort
set_option maxRecDepth 100000
set_option linter.unusedVariables false
set_option linter.unusedSimpArgs false
attribute [local go_sem ↓] Go.wp_at_zero Go.wp_at_succ

theorem elEt : El 24 76 2 24 := El.mk' Tryd.underlying24 (z := .agg #[.string ⟨#[]⟩, .int .i64 0]) (by kernel_rfl) rfl (by omega)
theorem oneEt : OneC encE := fun x j => by
  unfold encE
  split <;> rfl
theorem rd_oneEt (w : World) (n : ByteArray) (z : Int) : RdT encE 2 (w.alloc (.cells #[.string n, .int .i64 z] 76)) (some ⟨w.heap.size, 0, none⟩) [(⟨n, z⟩ : Ent)] := fun _ => ⟨w.heap.size, 0, rfl, by simp, fun i x hx j hj => by
  have : i = 0 := by
    rcases i with _ | i
    · rfl
    · simp at hx
  subst this
  simp at hx
  subst hx
  unfold World.cell?
  simp only [heap_alloc_new]
  match j, hj with
  | 0, _ => rfl
  | 1, _ => rfl⟩
theorem own_allocEt {base : Nat} {w : World} {v : Value} {l : List Ent} (h : Own encE 2 76 base w v l) (o : Obj) : Own encE 2 76 base (w.alloc o) v l := h.below ((Below.refl _ _).alloc (Nat.le_refl _) o)

/-! How a text of entries is cut. -/
theorem cutA_len (c : UInt8) : ∀ (s acc : List UInt8), (cutA c acc s).length ≤ s.length + 1 ∧ ∀ x ∈ cutA c acc s, x.length ≤ acc.length + s.length
  | [], acc => by simp [cutA]
  | b :: r, acc => by
    unfold cutA
    split
    · have h := cutA_len c r []
      refine ⟨by simp only [List.length_cons]; omega, fun x hx => ?_⟩
      rcases List.mem_cons.1 hx with rfl | hx
      · omega
      · have := h.2 x hx
        simp only [List.length_cons, List.length_nil] at this ⊢
        omega
    · have h := cutA_len c r (acc ++ [b])
      refine ⟨by simp only [List.length_cons]; omega, fun x hx => ?_⟩
      have := h.2 x hx
      simp only [List.length_append, List.length_cons, List.length_nil] at this ⊢
      omega
theorem cutB_len (c : UInt8) (s : ByteArray) : (cutB c s).length ≤ s.size + 1 ∧ ∀ x ∈ cutB c s, x.size ≤ s.size := by
  have h := cutA_len c s.data.toList []
  have hs : s.data.toList.length = s.size := Array.length_toList
  refine ⟨by rw [cutB, List.length_map]; unfold cutL; omega, fun x hx => ?_⟩
  rw [cutB, List.mem_map] at hx
  obtain ⟨y, hy, rfl⟩ := hx
  have := h.2 y hy
  rw [ofL_size]
  simp only [List.length_nil] at this
  omega
theorem ents_cut : ∀ {l : List Ent}, (∀ e ∈ l, nameB e.name = true ∧ 1 ≤ e.id ∧ e.id ≤ 15) → cutL 59 (entsL l) = l.map (fun (e : Ent) => e.name.data.toList ++ 61 :: decL e.id) ++ [[]]
  | [], _ => rfl
  | e :: r, h => by
    have h1 := h e (List.mem_cons_self ..)
    have f : (59 : UInt8) ∉ e.name.data.toList ++ 61 :: decL e.id := by
      simp only [List.mem_append, List.mem_cons, not_or]
      exact ⟨name_low h1.1 (by decide), by decide, decL_free (by decide)⟩
    have e1 : entsL (e :: r) = (e.name.data.toList ++ 61 :: decL e.id) ++ 59 :: entsL r := by simp [entsL, entL]
    rw [e1, cutL_hit 59 _ _ f, ents_cut (fun x hx => h x (List.mem_cons_of_mem _ hx))]
    simp
/-- The k-th piece of a text of entries. -/
theorem ents_piece {s : ByteArray} {m : List Ent} (hok : entriesOkB m = true) (he : entsL m = s.data.toList) :
    (cutB 59 s).length = m.length + 1 ∧ ∀ (k : Nat) (x : ByteArray), (cutB 59 s)[k]? = some x → k < m.length → ∃ e, m[k]? = some e ∧ cutB 61 x = [e.name, decT e.id] ∧ 1 ≤ e.id ∧ e.id ≤ 15 := by
  have h1 := (ent_ok hok).1
  have h2 : cutB 59 s = (m.map (fun (e : Ent) => e.name.data.toList ++ 61 :: decL e.id) ++ [[]]).map ofL := by rw [cutB, ← he, ents_cut h1]
  refine ⟨by rw [h2]; simp, fun k x hx hk => ?_⟩
  have hm := List.getElem?_eq_getElem hk
  have h3 := h1 _ (List.getElem_mem hk)
  refine ⟨m[k], hm, ?_, h3.2⟩
  rw [h2, List.getElem?_map, List.getElem?_append_left (by simpa using hk), List.getElem?_map, hm] at hx
  simp only [Option.map_some, Option.some.injEq] at hx
  rw [← hx, cutB, ofL_data, cutL_hit 61 _ _ (name_low h3.1 (by decide)), cutL_one 61 _ (decL_free (by decide))]
  simp only [List.map_cons, List.map_nil]
  rw [data_ofL]
  rfl
def SpecAt (s : ByteArray) (k : Nat) (out : List Ent) : Prop := ∀ m, entriesOkB m = true → entsL m = s.data.toList → out = m.take k
theorem specAt_step {s : ByteArray} {k : Nat} {out : List Ent} {x a b : ByteArray} (h : SpecAt s k out) (hx : (cutB 59 s)[k]? = some x) (hk : k + 1 < (cutB 59 s).length) (hc : cutB 61 x = [a, b]) : SpecAt s (k + 1) (out ++ [⟨a, numV b⟩]) := by
  intro m hok he
  obtain ⟨p1, p2⟩ := ents_piece hok he
  obtain ⟨e, e1, e2, e3, e4⟩ := p2 k x hx (by omega)
  rw [hc] at e2
  simp only [List.cons.injEq, and_true] at e2
  obtain ⟨rfl, rfl⟩ := e2
  have hn := numB_dec (s := decT e.id) (n := e.id) (by omega) (by omega) (decT_data _)
  rw [List.take_add_one, e1, h m hok he, hn.2]
  rfl
theorem specAt_bad {s : ByteArray} {k : Nat} {out : List Ent} {x : ByteArray} (hx : (cutB 59 s)[k]? = some x) (hk : k + 1 < (cutB 59 s).length) (hc : ¬ (cutB 61 x).length = 2) : EntG s [] false :=
  .inr ⟨rfl, rfl, fun m hok he => by
    obtain ⟨p1, p2⟩ := ents_piece hok he
    obtain ⟨e, _, e2, _, _⟩ := p2 k x hx (by omega)
    rw [e2] at hc
    exact hc rfl⟩
theorem specAt_end {s : ByteArray} {k : Nat} {out : List Ent} (h : SpecAt s k out) (hk : ¬ k + 1 < (cutB 59 s).length) :
    (entriesOkB out = false → EntG s [] false) ∧ (entriesOkB out = true → entsT out = s → EntG s out true) ∧ (entriesOkB out = true → entsT out ≠ s → EntG s [] false) := by
  have one : ∀ m, entriesOkB m = true → entsL m = s.data.toList → out = m := fun m hok he => by
    obtain ⟨p1, _⟩ := ents_piece hok he
    rw [h m hok he, List.take_of_length_le (by omega)]
  refine ⟨fun hb => .inr ⟨rfl, rfl, fun m hok he => ?_⟩, fun hb ht => .inl ⟨rfl, hb, ?_⟩, fun hb hn => .inr ⟨rfl, rfl, fun m hok he => hn ?_⟩⟩
  · rw [one m hok he, hok] at hb; cases hb
  · rw [← ht, entsT, ofL_data]
  · rw [one m hok he]
    exact ofL_ext (by rw [entsT, ofL_data, he])

theorem own_from {base : Nat} {w : World} {v : Value} {xs : List Ent} (h : Own encE 2 76 base w v xs) : ∀ k, v.ownBlock = some k → base ≤ k := by
  rcases h.2 with ⟨rfl, _⟩ | ⟨g, cap, cur, rfl, hg, _⟩
  · intro k hk; simp [Value.ownBlock] at hk
  · intro k hk; simp [Value.ownBlock] at hk; omega
/-- Rows that the call reads while it appends to another one. -/
theorem rd_grown {α : Type} {enc : α → Nat → Value} {sz : Nat} {W W' : World} {A : Option Addr} {xs : List α} {row : Option Nat} (h : RdT enc sz W A xs) (hg : W.grownBy W' row) (hne : ∀ a, A = some a → row ≠ some a.block) : RdT enc sz W' A xs :=
  h.keep hg.size (fun _ a ha hl => hg.block a.block hl (fun e => hne a ha e.symm))
/-- The row read lies apart from the row that grows. -/
def Off (W1 : World) (A : Option Addr) (x : Value) : Prop := ∀ a, A = some a → a.block < W1.heap.size ∧ x.ownBlock ≠ some a.block
theorem Off.next {W1 W : World} {A : Option Addr} {x x' : Value} (h : Off W1 A x) (hs : W1.heap.size ≤ W.heap.size) (ha : x'.ownBlock = x.ownBlock ∨ x'.ownBlock = some W.heap.size) : Off W1 A x' := fun a hA => by
  obtain ⟨h1, h2⟩ := h a hA
  refine ⟨h1, ?_⟩
  rcases ha with ha | ha
  · rw [ha]; exact h2
  · rw [ha]
    intro e
    simp only [Option.some.injEq] at e
    omega
/-- What reading entries gives. -/
def GetE (w : World) (s : ByteArray) (e : Ending) (w' : World) : Prop := ∃ (v : Value) (l : List Ent) (b : Bool), e = .returned (.tuple #[v, .bool b]) ∧ EntG s l b ∧ Own encE 2 76 w.heap.size w' v l ∧ Below w.heap.size w w'

set_option maxHeartbeats 8000000 in
theorem specEntriesGet_any (w : World) (s : ByteArray) (hs : s.size ≤ 1048576) : Calls Tryd.prog 15 #[.string s] w (GetE w s) := by
  have HC := Lib.hid (fun w (x : ByteArray) (hx : x.size ≤ 1048576) => l2Cut_any w x 61 hx)
  go_enter Tryd.func15, Tryd.ntmps15
  go_wp2_with fail
  refine Calls.mono (l2Cut_any _ s 59 hs) ?_
  rintro e w1 ⟨v, rfl, hO, hB⟩
  have HL := Lib.hid (cutB_len 59 s)
  have hlen := HL.out.1
  have hpos : 0 < (cutB 59 s).length := List.length_pos_iff.2 (cutB_ne 59 s)
  obtain ⟨P, hP⟩ : ∃ P, cutB 59 s = P := ⟨_, rfl⟩
  have HEQ := Lib.hid hP
  rw [hP] at hO HL hlen hpos
  clear hP
  have O1 := Lib.hid (show Own encE 2 76 w.heap.size w1 (.slice (some ⟨w.heap.size, 0, none⟩) 0 0) [] from (Own.empty (Nat.le_refl _)).below hB)
  have HB1 := Lib.hid (below_below (below_alloc (Below.refl w.heap.size w) _) hB)
  obtain ⟨A1, c1, rfl, hc1, hm1, hA1, hrd⟩ := hO.form
  have R1 := Lib.hid hrd
  have OF1 := Lib.hid (show Off w1 A1 (.slice (some ⟨w.heap.size, 0, none⟩) 0 0) from fun a ha => ⟨(hA1 a ha).2, by
    have := (hA1 a ha).1
    rw [World.size_alloc] at this
    simp only [Value.ownBlock, ne_eq, Option.some.injEq]
    omega⟩)
  have hw01 : w.heap.size ≤ w1.heap.size := HB1.out.size
  clear hO hB hrd hA1
  have HP := Lib.hid (show ∀ k, k < P.length → ∃ x, P[k]? = some x ∧ x.size ≤ 1048576 from fun k hk => ⟨_, List.getElem?_eq_getElem hk, Nat.le_trans (HL.out.2 _ (List.getElem_mem hk)) hs⟩)
  clear HL
  go_wp2_with fail
  go_loopw [4, 6] (fun x i wr => ∃ (k : Nat) (l : List Ent), i = .int .i64 k ∧ k < P.length ∧ l.length ≤ k ∧ Hid (SpecAt s k l) ∧ Hid (∀ e ∈ l, e.name.size ≤ 1048576) ∧ Hid (Own encE 2 76 w.heap.size wr x l) ∧ Hid (RdT encS 1 wr A1 P) ∧ Hid (Off w1 A1 x) ∧ Hid (Below w.heap.size w wr) ∧ w1.heap.size ≤ wr.heap.size) (fun _ i _ => 1048578 - (intOf i).toNat)
  case atStart => exact ⟨0, [], rfl, hpos, Nat.le_refl _, Lib.hid (fun m _ _ => by simp), Lib.hid (fun e he => by cases he), O1, R1, OF1, HB1, Nat.le_refl _⟩
  case round =>
    clear O1 R1 OF1 HB1
    obtain ⟨k, l, rfl, hk, hlk, HS, HZ, HO, HR, HF, HBw, hs1⟩ := hrel
    --A1
    obtain ⟨x, hx, hxz⟩ := HP.out k hk
    --A2
    have hkk : k ≤ 1048577 := by omega
    have hwr := HBw.out.size
    by_cases hlt : k + 1 < P.length
    · --A3
      obtain ⟨b, off, rfl, hb, hcs⟩ := HR.out (by omega)
      --A4
      have c0 := hcs k x hx 0 (by omega)
      simp only [Nat.mul_one, Nat.add_zero, encS] at c0
      --A5
      have HBAD := Lib.hid (fun (h : ¬ (cutB 61 x).length = 2) => specAt_bad (s := s) (k := k) (out := l) (by rw [HEQ.out]; exact hx) (by rw [HEQ.out]; exact hlt) h)
      --A6
      have HNX := Lib.hid (fun p q (h : cutB 61 x = [p, q]) => specAt_step (a := p) (b := q) HS.out (by rw [HEQ.out]; exact hx) (by rw [HEQ.out]; exact hlt) h)
      clear hcs hx HS
      --S1
      go_wp2_with fail
      --S2
      refine Calls.mono (HC.out _ x hxz) ?_
      rintro e w2 ⟨v2, rfl, hO2, hB2⟩
      have O2 := Lib.hid (HO.out.below hB2)
      have HR2 := Lib.hid (HR.out.below hB2)
      have HBw2 := Lib.hid (below_below HBw.out hB2)
      have hw2 := HBw2.out.size
      have hs2 : w1.heap.size ≤ w2.heap.size := Nat.le_trans hs1 hB2.size
      clear hB2 HO HR HBw
      by_cases h2 : (cutB 61 x).length = 2
      · obtain ⟨p, q, hpq⟩ : ∃ p q, cutB 61 x = [p, q] := by
          match hm : cutB 61 x, h2 with
          | [p, q], _ => exact ⟨p, q, rfl⟩
        have hsz := (cutB_len 61 x).2
        rw [hpq] at hO2 hsz
        have hpz := hsz p (by simp)
        have hqz := hsz q (by simp)
        have HN2 := Lib.hid (HNX.out p q hpq)
        obtain ⟨A2, c2, rfl, hc2, hm2, _, hrd2⟩ := hO2.form
        obtain ⟨b2, off2, rfl, hb2, hcs2⟩ := hrd2 (by simp)
        have d0 := hcs2 0 p rfl 0 (by omega)
        have d1 := hcs2 1 q rfl 0 (by omega)
        simp only [Nat.mul_one, Nat.add_zero, encS] at d0 d1
        have hc22 : 2 ≤ c2 := hc2
        have HN := Lib.hid (fun w => specNumGet_any q w (by omega))
        generalize numV q = nv at *
        generalize numB q = nb at *
        clear hcs2 hO2 hrd2 h2 hpq HNX HBAD hsz hc2
        have K1 := Lib.hid (And.intro (show (l.length + 1) * 24 ≤ 140737488355328 by omega) (show l.length + 1 ≤ maxLen by unfold maxLen; omega))
        --S3
        go_wp2_with fail
        refine Calls.mono (HN.out _) ?_
        rintro e w3 ⟨rfl, rfl⟩
        --S4
        go_wp2_with (at_builtin; refine wpList_app (ys := ([⟨p, nv⟩] : List Ent)) elEt rfl _ _ rfl (by rfl) (own_allocEt O2.out _) (by rfl) rfl (rd_oneEt _ _ _) oneEt K1.out.1 K1.out.2 (below_alloc HBw2.out _).size ?_; intro v4 w4 ownv grv atv; have HB4 := Lib.hid (below_grown (below_alloc HBw2.out _) (own_allocEt O2.out _) grv); have HR4 := Lib.hid (rd_grown (HR2.out.below (below_alloc (Below.refl _ _) (.cells #[.string p, .int .i64 nv] 76))) grv (fun a ha => (HF.out a ha).2)); have HF4 := Lib.hid (HF.out.next (by rw [World.size_alloc]; omega) atv); have hs4 := grv.size; rw [World.size_alloc] at hs4; clear grv atv)
        --S5
        go_roundw
        case rel => exact ⟨k + 1, _, by go_num, hlt, by simp; omega, HN2, Lib.hid (fun e he => by
          rcases List.mem_append.1 he with he | he
          · exact HZ.out e he
          · simp only [List.mem_singleton] at he
            rw [he]; dsimp only; omega), Lib.hid ownv, HR4, HF4, HB4, by omega⟩
        case measure => simp [intOf]; omega
      · obtain ⟨A2, c2, rfl, hc2, hm2, _, hrd2⟩ := hO2.form
        have h2' : (((cutB 61 x).length : Int) != 2) = true := by simp; omega
        have HE := Lib.hid (HBAD.out h2)
        clear hO2 hrd2 h2 HNX HBAD
        generalize (cutB 61 x).length = n2 at *
        go_wp2_with fail
        go_ret2
        exact ⟨_, [], false, rfl, HE.out, Own.empty hw2, below_alloc HBw2.out _⟩
    · obtain ⟨A4, c4, rfl, hc4, hm4, _, hrd4⟩ := HO.out.form
      obtain ⟨e1, e2, e3⟩ := specAt_end HS.out (by rw [HEQ.out]; exact hlt)
      have HOK := Lib.hid (specEntriesOk_any wr A4 c4 l hrd4 hc4 hm4 (fun e he => Nat.le_trans (HZ.out e he) (by omega)))
      have HR4 := Lib.hid hrd4
      clear hrd4 HP HR HF HS
      cases hok : entriesOkB l
      · rw [hok] at HOK
        have HE := Lib.hid (e1 hok)
        clear e1 e2 e3 hok
        go_wp2_with fail
        refine Calls.mono HOK.out ?_
        rintro e w2 ⟨rfl, hB2⟩
        have HBw2 := Lib.hid (below_below HBw.out hB2)
        have hw2 := HBw2.out.size
        clear hB2
        go_wp2_with fail
        go_ret2
        exact ⟨_, [], false, rfl, HE.out, Own.empty hw2, below_alloc HBw2.out _⟩
      · rw [hok] at HOK
        have HPUT := Lib.hid (fun w1 hB => l12Put_any w1 A4 c4 l (HR4.out.below (w' := w1) hB) hc4 hm4 hok)
        have E2 := Lib.hid (e2 hok)
        have E3 := Lib.hid (e3 hok)
        clear e1 e2 e3 hok
        generalize entsT l = S at *
        go_wp2_with fail
        refine Calls.mono HOK.out ?_
        rintro e w2 ⟨rfl, hB2⟩
        have HBw2 := Lib.hid (below_below HBw.out hB2)
        have O2 := Lib.hid (HO.out.below hB2)
        have HPU2 := Lib.hid (HPUT.out w2 hB2)
        clear hB2 HPUT
        go_wp2_with fail
        refine Calls.mono HPU2.out ?_
        rintro e w3 ⟨rfl, hB3⟩
        have HBw3 := Lib.hid (below_below HBw2.out hB3)
        have O3 := Lib.hid (O2.out.below hB3)
        have hw3 := HBw3.out.size
        clear hB3
        by_cases hSs : S = s
        · have HE := Lib.hid (E2.out hSs)
          have hq : (S.toList == s.toList) = true := by rw [hSs]; simp
          clear hSs E2 E3
          go_wp2_with fail
          go_ret2
          exact ⟨_, l, true, rfl, HE.out, O3.out, HBw3.out⟩
        · have HE := Lib.hid (E3.out hSs)
          have hq : (S.toList == s.toList) = false := by
            cases h : (S.toList == s.toList)
            · rfl
            · rw [beq_iff_eq, Lib.toList_data, Lib.toList_data] at h
              exact absurd (ofL_ext h) hSs
          clear hSs E2 E3
          go_wp2_with fail
          go_ret2
          exact ⟨_, [], false, rfl, HE.out, Own.empty hw3, below_alloc HBw3.out _⟩

/-! strings.Cut at one byte. -/
theorem index_hit (c : UInt8) : ∀ (p x : List UInt8), c ∉ p → Lib.index (p ++ c :: x) [c] = (p.length : Int)
  | [], x, _ => by unfold Lib.index; simp
  | b :: p, x, h => by
    simp only [List.mem_cons, not_or] at h
    have ih := index_hit c p x h.2
    have h0 : List.isPrefixOf [c] (b :: (p ++ c :: x)) = false := by simp [List.isPrefixOf, h.1]
    rw [List.cons_append]
    unfold Lib.index
    rw [h0, ih]
    have : (((p.length : Nat) : Int) == -1) = false := by rw [beq_eq_false_iff_ne]; omega
    simp [this]
theorem index_miss (c : UInt8) : ∀ (s : List UInt8), c ∉ s → Lib.index s [c] = -1
  | [], _ => by unfold Lib.index; simp
  | b :: s, h => by
    simp only [List.mem_cons, not_or] at h
    have ih := index_miss c s h.2
    have h0 : List.isPrefixOf [c] (b :: s) = false := by simp [List.isPrefixOf, h.1]
    unfold Lib.index
    rw [h0, ih]
    rfl
theorem cut1_hit {c : UInt8} {p x : List UInt8} (h : c ∉ p) : Lib.cut (p ++ c :: x) [c] = (p, x, true) := by
  unfold Lib.cut
  rw [index_hit c p x h, if_pos (by omega)]
  have e1 : ((p.length : Nat) : Int).toNat = p.length := by omega
  rw [e1]
  simp
theorem cut1_miss {c : UInt8} {s : List UInt8} (h : c ∉ s) : Lib.cut s [c] = (s, [], false) := by
  unfold Lib.cut
  rw [index_miss c s h, if_neg (by omega)]
/-- The three parts of a cut. -/
theorem cut1_cases (c : UInt8) (s : List UInt8) : (Lib.cut s [c] = (s, [], false) ∧ c ∉ s) ∨ ∃ p x, s = p ++ c :: x ∧ c ∉ p ∧ Lib.cut s [c] = (p, x, true) := by
  rcases first_at c s with h | ⟨p, x, rfl, h⟩
  · exact .inl ⟨cut1_miss h, h⟩
  · exact .inr ⟨p, x, rfl, h, cut1_hit h⟩
theorem entGet_good {s R : List UInt8} {l : List Ent} (h : EntAt' s l R) (h1 : (Lib.cut R [59]).2.2 = true) (h2 : (Lib.cut (Lib.cut R [59]).1 [61]).2.2 = true) (h3 : numB (ofL (Lib.cut (Lib.cut R [59]).1 [61]).2.1) = true) :
    EntAt' s (l ++ [⟨ofL (Lib.cut (Lib.cut R [59]).1 [61]).1, numV (ofL (Lib.cut (Lib.cut R [59]).1 [61]).2.1)⟩]) (Lib.cut R [59]).2.1 ∧ (Lib.cut R [59]).2.1.length < R.length := by
  rcases cut1_cases 59 R with ⟨e, _⟩ | ⟨p, x, hR, hp, e⟩
  · rw [e] at h1; cases h1
  · rw [e] at h2 h3 ⊢
    dsimp only at h2 h3 ⊢
    rcases cut1_cases 61 p with ⟨e2, _⟩ | ⟨a, b, hpe, ha, e2⟩
    · rw [e2] at h2; cases h2
    · rw [e2] at h3 ⊢
      dsimp only at h3 ⊢
      have f : (59 : UInt8) ∉ a := fun hm => hp (by rw [hpe]; exact List.mem_append_left _ hm)
      refine ⟨entAt_next (name := ofL a) (num := ofL b) h ?_ (by rw [ofL_data]; exact ha) (by rw [ofL_data]; exact f) h3, ?_⟩
      · rw [ofL_data, ofL_data, hR, hpe]; simp
      · rw [hR]; simp only [List.length_append, List.length_cons]; omega
theorem entGet_bad {s : ByteArray} {R : List UInt8} {l : List Ent} (h : EntAt' s.data.toList l R) (hR : R ≠ []) (hb : (Lib.cut R [59]).2.2 = false ∨ (Lib.cut (Lib.cut R [59]).1 [61]).2.2 = false ∨ numB (ofL (Lib.cut (Lib.cut R [59]).1 [61]).2.1) = false ∨ l.length = 12) : EntG s [] false :=
  .inr ⟨rfl, rfl, fun m hm he => by
    obtain ⟨e, m', e1, e2, e3, e4, e5, e6⟩ := ent_begin h hR hm he
    have f : (59 : UInt8) ∉ e.name.data.toList ++ 61 :: decL e.id := by
      simp only [List.mem_append, List.mem_cons, not_or]
      exact ⟨name_low e4 (by decide), by decide, decL_free (by decide)⟩
    have g1 : Lib.cut R [59] = (e.name.data.toList ++ 61 :: decL e.id, entsL m', true) := by
      rw [e1, ← cut1_hit (x := entsL m') f]
      simp
    rw [g1] at hb
    dsimp only at hb
    rw [cut1_hit (name_low e4 (by decide))] at hb
    dsimp only at hb
    have hn := (numB_dec (s := ofL (decL e.id)) (n := e.id) (by omega) (by omega) (ofL_data _)).1
    rw [hn] at hb
    simp only [Bool.true_eq_false, false_or] at hb
    omega⟩
theorem ents_name_len {l : List Ent} : ∀ e ∈ l, e.name.size ≤ (entsL l).length := by
  induction l with
  | nil => intro e he; cases he
  | cons x r ih =>
    intro e he
    rw [entsL, List.length_append]
    rcases List.mem_cons.1 he with rfl | he
    · have : e.name.data.toList.length = e.name.size := Array.length_toList
      unfold entL
      simp only [List.length_append, List.length_cons]
      omega
    · have := ih e he
      omega
def strLen : Value → Nat
  | .string s => s.size
  | _ => 0
def CutAt (w : World) : Prop := ∃ m : Int, w.cell? ⟨0, 0, none⟩ = some (.int .i64 m)
theorem CutAt.below {w w' : World} (h : CutAt w) (hb : Below w.heap.size w w') : CutAt w' := by
  obtain ⟨m, h1⟩ := h
  exact ⟨m, ((bcell hb).1 _ 0 (Lib.lt_of_cell h1)).trans h1⟩
theorem sclone_any (s : ByteArray) (w : World) (hs : s.size ≤ 1048576) : Calls Tryd.prog 48 #[.string s] w fun e w' => e = .returned (.string s) ∧ Below w.heap.size w w' := by
  have HC := Lib.hid (Tryd.stringslite_Clone s w (by omega))
  go_enter Tryd.func48, Tryd.ntmps48
  go_wp2_with fail
  refine Calls.mono HC.out ?_
  rintro e w2 ⟨rfl, hB⟩
  have HB := Lib.hid hB
  clear hB
  go_wp2_with fail
  go_ret
  exact ⟨rfl, HB.out⟩
theorem cut_any (s : ByteArray) (c : UInt8) (w : World) (hM : CutAt w) (hs : s.size ≤ 1048576) : Calls Tryd.prog 46 #[.string s, .string ⟨#[c]⟩] w fun e w' => e = .returned (.tuple #[.string (ofL (Lib.cut s.data.toList [c]).1), .string (ofL (Lib.cut s.data.toList [c]).2.1), .bool (Lib.cut s.data.toList [c]).2.2]) ∧ Below w.heap.size w w' := by
  obtain ⟨m, hm⟩ := hM
  refine (Tryd.strings_Cut s ⟨#[c]⟩ m w (by omega) hm).mono ?_
  rintro e w' ⟨he, n, rfl⟩
  exact ⟨he, below_drewN (Below.refl _ _) n⟩
theorem cut_size (s : ByteArray) (c : UInt8) : (ofL (Lib.cut s.data.toList [c]).1).size ≤ s.size ∧ (ofL (Lib.cut s.data.toList [c]).2.1).size ≤ s.size := by
  have hs : s.data.toList.length = s.size := Array.length_toList
  rcases cut1_cases c s.data.toList with ⟨e, _⟩ | ⟨p, x, h, _, e⟩
  · rw [e, ofL_size, ofL_size]
    simp only [List.length_nil]
    omega
  · rw [e, ofL_size, ofL_size]
    rw [h] at hs
    simp only [List.length_append, List.length_cons] at hs ⊢
    omega
theorem own_nilE (base : Nat) (w : World) : Own encE 2 76 base w (.slice none 0 0) ([] : List Ent) := ⟨by simp [cellsOf], .inl ⟨rfl, rfl⟩⟩
set_option maxHeartbeats 4000000 in
theorem entriesGet_any (w : World) (s : ByteArray) (hT : TenAt w) (hE : ErrAt w) (hM : CutAt w) (hs : s.size ≤ 1048576) : Calls Tryd.prog 14 #[.string s] w (GetE w s) := by
  have HC := Lib.hid (fun c w (x : ByteArray) hM (hx : x.size ≤ 1048576) => cut_any x c w hM hx)
  have LB := Lib.hid (And.intro hT (And.intro hE hM))
  clear hT hE hM
  go_enter Tryd.func14, Tryd.ntmps14
  go_wp2_with fail
  go_loopw [4, 5] (fun x r wr => ∃ (l : List Ent) (R : ByteArray), r = .string R ∧ R.size ≤ 1048576 ∧ l.length ≤ 12 ∧ Hid (EntAt' s.data.toList l R.data.toList) ∧ Hid (Own encE 2 76 w.heap.size wr x l) ∧ Hid (Below w.heap.size w wr)) (fun _ r _ => strLen r)
  case atStart => exact ⟨[], s, rfl, hs, by simp, Lib.hid (entAt_start _), Lib.hid (own_nilE _ _), Lib.hid (Below.refl _ _)⟩
  case round =>
    obtain ⟨l, R, rfl, hRz, hl, HA, HO, HB⟩ := hrel
    by_cases hR : R.size = 0
    · have hR0 : R = ⟨#[]⟩ := ofL_ext (List.length_eq_zero_iff.1 (by rw [Array.length_toList]; exact hR))
      subst hR0
      obtain ⟨A4, c4, rfl, hc4, hm4, _, hrd4⟩ := HO.out.form
      obtain ⟨e1, e2⟩ := entAt_end HA.out
      have HNZ := Lib.hid (show ∀ e ∈ l, e.name.size ≤ 9223372036854775807 from fun e he => by
        have h1 := ents_name_len e he
        have h2 := congrArg List.length HA.out.1
        have h3 : s.data.toList.length = s.size := Array.length_toList
        rw [List.length_append] at h2
        omega)
      have HOK := Lib.hid (entriesOk_any _ A4 c4 l hrd4 hc4 hm4 HNZ.out)
      clear hrd4 HA HNZ
      cases hok : entriesOkB l
      · rw [hok] at HOK
        have HE := Lib.hid (e2 hok)
        clear e1 e2 hok
        go_wp2_with fail
        refine Calls.mono HOK.out ?_
        rintro e w2 ⟨rfl, hB2⟩
        have HB2 := Lib.hid (below_below HB.out hB2)
        clear hB2
        go_wp2_with fail
        go_ret2
        exact ⟨_, [], false, rfl, HE.out, own_nilE _ _, HB2.out⟩
      · rw [hok] at HOK
        have HE := Lib.hid (e1 hok)
        clear e1 e2 hok
        go_wp2_with fail
        refine Calls.mono HOK.out ?_
        rintro e w2 ⟨rfl, hB2⟩
        have HB2 := Lib.hid (below_below HB.out hB2)
        have O2 := Lib.hid (HO.out.below hB2)
        clear hB2
        go_wp2_with fail
        go_ret2
        exact ⟨_, l, true, rfl, HE.out, O2.out, HB2.out⟩
    · have hRne : R.data.toList ≠ [] := fun e => hR (by
        have h3 : R.data.toList.length = R.size := Array.length_toList
        rw [e] at h3
        exact h3.symm)
      have hq : (R.toList == (⟨#[]⟩ : ByteArray).toList) = false := by
        rw [Lib.toList_data, Lib.toList_data]
        simpa using hRne
      have hq2 : R.toList.isEmpty = false := by
        rw [Lib.toList_data]
        simpa using hRne
      have HGOOD := Lib.hid (entGet_good HA.out)
      have HBAD := Lib.hid (entGet_bad HA.out hRne)
      have HC1 := Lib.hid (HC.out 59 wr R (LB.out.2.2.below HB.out) hRz)
      have hz1 := cut_size R 59
      have HC2 := Lib.hid (fun w hM => HC.out 61 w (ofL (Lib.cut R.data.toList [59]).1) hM (by omega))
      rw [ofL_data] at HC2
      have hz2 := cut_size (ofL (Lib.cut R.data.toList [59]).1) 61
      rw [ofL_data] at hz2
      have HLT := Lib.hid (show (ofL (Lib.cut R.data.toList [59]).2.1).data.toList = (Lib.cut R.data.toList [59]).2.1 from ofL_data _)
      have hRl : R.data.toList.length = R.size := Array.length_toList
      rw [hRl] at HGOOD
      clear hRl hRne HA
      generalize (Lib.cut (Lib.cut R.data.toList [59]).1 [61]).2.2 = k2 at *
      generalize ofL (Lib.cut (Lib.cut R.data.toList [59]).1 [61]).2.1 = num at *
      generalize ofL (Lib.cut (Lib.cut R.data.toList [59]).1 [61]).1 = name at *
      generalize (Lib.cut R.data.toList [59]).2.2 = k1 at *
      generalize ofL (Lib.cut R.data.toList [59]).1 = one at *
      generalize ofL (Lib.cut R.data.toList [59]).2.1 = tail at *
      rw [← HLT.out] at HGOOD
      clear HLT
      have HN := Lib.hid (fun w hT hE => numGet_any num w hT hE (by omega))
      have HA2 := Lib.hid (fun (h1 : k1 = true) (h2 : k2 = true) (h3 : numB num = true) => HGOOD.out h1 h2 h3)
      have HZT := Lib.hid (show tail.data.toList.length = tail.size from Array.length_toList)
      rw [HZT.out] at HA2
      clear HGOOD HZT
      generalize numV num = nv at *
      generalize numB num = nb at *
      go_wp2_with fail
      refine Calls.mono HC1.out ?_
      rintro e w2 ⟨rfl, hB2⟩
      have HB2 := Lib.hid (below_below HB.out hB2)
      have O2 := Lib.hid (HO.out.below hB2)
      clear hB2 HO HB HC1
      go_wp2_with fail
      refine Calls.mono (HC2.out w2 (LB.out.2.2.below HB2.out)) ?_
      rintro e w3 ⟨rfl, hB3⟩
      have HB3 := Lib.hid (below_below HB2.out hB3)
      have O3 := Lib.hid (O2.out.below hB3)
      clear hB3 O2 HB2 HC2
      go_wp2_with fail
      refine Calls.mono (HN.out w3 (LB.out.1.below HB3.out) (LB.out.2.1.below HB3.out)) ?_
      rintro e w4 ⟨rfl, hB4⟩
      have HB4 := Lib.hid (below_below HB3.out hB4)
      have O4 := Lib.hid (O3.out.below hB4)
      obtain ⟨A4, c4, rfl, hc4, hm4, _, hrd4⟩ := O4.out.form
      clear hB4 O3 HB3 HN hrd4
      cases k1
      · have HE := Lib.hid (HBAD.out (.inl rfl))
        clear HBAD HA2
        go_wp2_with fail
        go_ret2
        exact ⟨_, [], false, rfl, HE.out, own_nilE _ _, HB4.out⟩
      cases k2
      · have HE := Lib.hid (HBAD.out (.inr (.inl rfl)))
        clear HBAD HA2
        go_wp2_with fail
        go_ret2
        exact ⟨_, [], false, rfl, HE.out, own_nilE _ _, HB4.out⟩
      cases nb
      · have HE := Lib.hid (HBAD.out (.inr (.inr (.inl rfl))))
        clear HBAD HA2
        go_wp2_with fail
        go_ret2
        exact ⟨_, [], false, rfl, HE.out, own_nilE _ _, HB4.out⟩
      by_cases h12 : l.length = 12
      · have HE := Lib.hid (HBAD.out (.inr (.inr (.inr h12))))
        have h12' : ((l.length : Int) == 12) = true := by simp; omega
        clear HBAD HA2 h12
        go_wp2_with fail
        go_ret2
        exact ⟨_, [], false, rfl, HE.out, own_nilE _ _, HB4.out⟩
      · have h12' : ((l.length : Int) == 12) = false := by simp; omega
        obtain ⟨g1, g2⟩ := HA2.out rfl rfl rfl
        have HG := Lib.hid g1
        have HCL := Lib.hid (fun w => sclone_any name w (by omega))
        clear HBAD HA2 g1
        have K1 := Lib.hid (And.intro (show (l.length + 1) * 24 ≤ 140737488355328 by omega) (show l.length + 1 ≤ maxLen by unfold maxLen; omega))
        go_wp2_with fail
        refine Calls.mono (HCL.out _) ?_
        rintro e w5 ⟨rfl, hB5⟩
        have HB5 := Lib.hid (below_below HB4.out hB5)
        have O5 := Lib.hid (O4.out.below hB5)
        clear hB5 O4 HB4 HCL
        go_wp2_with (at_builtin; refine wpList_app (ys := ([⟨name, nv⟩] : List Ent)) elEt rfl _ _ rfl (by rfl) (own_allocEt O5.out _) (by rfl) rfl (rd_oneEt _ _ _) oneEt K1.out.1 K1.out.2 (below_alloc HB5.out _).size ?_; intro v6 w6 ownv grv atv; have HB6 := Lib.hid (below_grown (below_alloc HB5.out _) (own_allocEt O5.out _) grv); clear grv atv)
        go_roundw
        case rel => exact ⟨_, tail, rfl, by omega, by simp; omega, HG, Lib.hid ownv, HB6⟩
        case measure => exact g2

end Go.Proofs.YtjalboplilolkaaDoor
