/- Entries read out of a text: both texts' walks. -/
import Derived.Test.YthedmiippfpbnaaGreatDoorEntText
namespace Go.Proofs.YthedmiippfpbnaaGreatDoor
open Go.RowKit Go.Sort
set_option maxRecDepth 100000
set_option linter.unusedVariables false
set_option linter.unusedSimpArgs false
attribute [local go_sem ↓] Go.wp_at_zero Go.wp_at_succ

theorem oneEt : OneC encE := fun x j => by
  unfold encE
  split <;> rfl
/-! How a text of entries is cut. -/
theorem cutA_len (c : UInt8) : ∀ (s acc : List UInt8), (cutA c acc s).length ≤ s.length + 1 ∧ ∀ x ∈ cutA c acc s, x.length ≤ acc.length + s.length
  | [], acc => by simp [cutA]
  | b :: r, acc => by
    unfold cutA
    split
    · have h := cutA_len c r []
      refine ⟨by simp only [List.length_cons]; omega, fun x hx => ?_⟩
      rcases List.mem_cons.1 hx with rfl | hx
      · omega
      · have := h.2 x hx
        simp only [List.length_cons, List.length_nil] at this ⊢
        omega
    · have h := cutA_len c r (acc ++ [b])
      refine ⟨by simp only [List.length_cons]; omega, fun x hx => ?_⟩
      have := h.2 x hx
      simp only [List.length_append, List.length_cons, List.length_nil] at this ⊢
      omega
theorem cutB_len (c : UInt8) (s : ByteArray) : (cutB c s).length ≤ s.size + 1 ∧ ∀ x ∈ cutB c s, x.size ≤ s.size := by
  have h := cutA_len c s.data.toList []
  have hs : s.data.toList.length = s.size := Array.length_toList
  refine ⟨by rw [cutB, List.length_map]; unfold cutL; omega, fun x hx => ?_⟩
  rw [cutB, List.mem_map] at hx
  obtain ⟨y, hy, rfl⟩ := hx
  have := h.2 y hy
  rw [ofL_size]
  simp only [List.length_nil] at this
  omega
theorem ents_cut : ∀ {l : List Ent}, (∀ e ∈ l, nameB e.name = true ∧ 1 ≤ e.id ∧ e.id ≤ 15) → cutL 59 (entsL l) = l.map (fun (e : Ent) => e.name.data.toList ++ 61 :: decL e.id) ++ [[]]
  | [], _ => rfl
  | e :: r, h => by
    have h1 := h e (List.mem_cons_self ..)
    have f : (59 : UInt8) ∉ e.name.data.toList ++ 61 :: decL e.id := by
      simp only [List.mem_append, List.mem_cons, not_or]
      exact ⟨name_low h1.1 (by decide), by decide, decL_free (by decide)⟩
    have e1 : entsL (e :: r) = (e.name.data.toList ++ 61 :: decL e.id) ++ 59 :: entsL r := by simp [entsL, entL]
    rw [e1, cutL_hit 59 _ _ f, ents_cut (fun x hx => h x (List.mem_cons_of_mem _ hx))]
    simp
/-- The k-th piece of a text of entries. -/
theorem ents_piece {s : ByteArray} {m : List Ent} (hok : entriesOkB m = true) (he : entsL m = s.data.toList) :
    (cutB 59 s).length = m.length + 1 ∧ ∀ (k : Nat) (x : ByteArray), (cutB 59 s)[k]? = some x → k < m.length → ∃ e, m[k]? = some e ∧ cutB 61 x = [e.name, decT e.id] ∧ 1 ≤ e.id ∧ e.id ≤ 15 := by
  have h1 := (ent_ok hok).1
  have h2 : cutB 59 s = (m.map (fun (e : Ent) => e.name.data.toList ++ 61 :: decL e.id) ++ [[]]).map ofL := by rw [cutB, ← he, ents_cut h1]
  refine ⟨by rw [h2]; simp, fun k x hx hk => ?_⟩
  have hm := List.getElem?_eq_getElem hk
  have h3 := h1 _ (List.getElem_mem hk)
  refine ⟨m[k], hm, ?_, h3.2⟩
  rw [h2, List.getElem?_map, List.getElem?_append_left (by simpa using hk), List.getElem?_map, hm] at hx
  simp only [Option.map_some, Option.some.injEq] at hx
  rw [← hx, cutB, ofL_data, cutL_hit 61 _ _ (name_low h3.1 (by decide)), cutL_one 61 _ (decL_free (by decide))]
  simp only [List.map_cons, List.map_nil]
  rw [data_ofL]
  rfl
def SpecAt (s : ByteArray) (k : Nat) (out : List Ent) : Prop := ∀ m, entriesOkB m = true → entsL m = s.data.toList → out = m.take k
theorem specAt_step {s : ByteArray} {k : Nat} {out : List Ent} {x a b : ByteArray} (h : SpecAt s k out) (hx : (cutB 59 s)[k]? = some x) (hk : k + 1 < (cutB 59 s).length) (hc : cutB 61 x = [a, b]) : SpecAt s (k + 1) (out ++ [⟨a, numV b⟩]) := by
  intro m hok he
  obtain ⟨p1, p2⟩ := ents_piece hok he
  obtain ⟨e, e1, e2, e3, e4⟩ := p2 k x hx (by omega)
  rw [hc] at e2
  simp only [List.cons.injEq, and_true] at e2
  obtain ⟨rfl, rfl⟩ := e2
  have hn := numB_dec (s := decT e.id) (n := e.id) (by omega) (by omega) (decT_data _)
  rw [List.take_add_one, e1, h m hok he, hn.2]
  rfl
theorem specAt_bad {s : ByteArray} {k : Nat} {out : List Ent} {x : ByteArray} (hx : (cutB 59 s)[k]? = some x) (hk : k + 1 < (cutB 59 s).length) (hc : ¬ (cutB 61 x).length = 2) : EntG s [] false :=
  .inr ⟨rfl, rfl, fun m hok he => by
    obtain ⟨p1, p2⟩ := ents_piece hok he
    obtain ⟨e, _, e2, _, _⟩ := p2 k x hx (by omega)
    rw [e2] at hc
    exact hc rfl⟩
theorem specAt_end {s : ByteArray} {k : Nat} {out : List Ent} (h : SpecAt s k out) (hk : ¬ k + 1 < (cutB 59 s).length) :
    (entriesOkB out = false → EntG s [] false) ∧ (entriesOkB out = true → entsT out = s → EntG s out true) ∧ (entriesOkB out = true → entsT out ≠ s → EntG s [] false) := by
  have one : ∀ m, entriesOkB m = true → entsL m = s.data.toList → out = m := fun m hok he => by
    obtain ⟨p1, _⟩ := ents_piece hok he
    rw [h m hok he, List.take_of_length_le (by omega)]
  refine ⟨fun hb => .inr ⟨rfl, rfl, fun m hok he => ?_⟩, fun hb ht => .inl ⟨rfl, hb, ?_⟩, fun hb hn => .inr ⟨rfl, rfl, fun m hok he => hn ?_⟩⟩
  · rw [one m hok he, hok] at hb; cases hb
  · rw [← ht, entsT, ofL_data]
  · rw [one m hok he]
    exact ofL_ext (by rw [entsT, ofL_data, he])

/-- Rows that the call reads while it appends to another one. -/
theorem rd_grown {α : Type} {enc : α → Nat → Value} {sz : Nat} {W W' : World} {A : Option Addr} {xs : List α} {row : Option Nat} (h : RdT enc sz W A xs) (hg : W.grownBy W' row) (hne : ∀ a, A = some a → row ≠ some a.block) : RdT enc sz W' A xs :=
  h.keep hg.size (fun _ a ha hl => hg.block a.block hl (fun e => hne a ha e.symm))
/-- The row read lies apart from the row that grows. -/
def Off (W1 : World) (A : Option Addr) (x : Value) : Prop := ∀ a, A = some a → a.block < W1.heap.size ∧ x.ownBlock ≠ some a.block
theorem Off.next {W1 W : World} {A : Option Addr} {x x' : Value} (h : Off W1 A x) (hs : W1.heap.size ≤ W.heap.size) (ha : x'.ownBlock = x.ownBlock ∨ x'.ownBlock = some W.heap.size) : Off W1 A x' := fun a hA => by
  obtain ⟨h1, h2⟩ := h a hA
  refine ⟨h1, ?_⟩
  rcases ha with ha | ha
  · rw [ha]; exact h2
  · rw [ha]
    intro e
    simp only [Option.some.injEq] at e
    omega
/-! strings.Cut at one byte. -/
theorem index_hit (c : UInt8) : ∀ (p x : List UInt8), c ∉ p → Lib.index (p ++ c :: x) [c] = (p.length : Int)
  | [], x, _ => by unfold Lib.index; simp
  | b :: p, x, h => by
    simp only [List.mem_cons, not_or] at h
    have ih := index_hit c p x h.2
    have h0 : List.isPrefixOf [c] (b :: (p ++ c :: x)) = false := by simp [List.isPrefixOf, h.1]
    rw [List.cons_append]
    unfold Lib.index
    rw [h0, ih]
    have : (((p.length : Nat) : Int) == -1) = false := by rw [beq_eq_false_iff_ne]; omega
    simp [this]
theorem index_miss (c : UInt8) : ∀ (s : List UInt8), c ∉ s → Lib.index s [c] = -1
  | [], _ => by unfold Lib.index; simp
  | b :: s, h => by
    simp only [List.mem_cons, not_or] at h
    have ih := index_miss c s h.2
    have h0 : List.isPrefixOf [c] (b :: s) = false := by simp [List.isPrefixOf, h.1]
    unfold Lib.index
    rw [h0, ih]
    rfl
theorem cut1_hit {c : UInt8} {p x : List UInt8} (h : c ∉ p) : Lib.cut (p ++ c :: x) [c] = (p, x, true) := by
  unfold Lib.cut
  rw [index_hit c p x h, if_pos (by omega)]
  have e1 : ((p.length : Nat) : Int).toNat = p.length := by omega
  rw [e1]
  simp
theorem cut1_miss {c : UInt8} {s : List UInt8} (h : c ∉ s) : Lib.cut s [c] = (s, [], false) := by
  unfold Lib.cut
  rw [index_miss c s h, if_neg (by omega)]
/-- The three parts of a cut. -/
theorem cut1_cases (c : UInt8) (s : List UInt8) : (Lib.cut s [c] = (s, [], false) ∧ c ∉ s) ∨ ∃ p x, s = p ++ c :: x ∧ c ∉ p ∧ Lib.cut s [c] = (p, x, true) := by
  rcases first_at c s with h | ⟨p, x, rfl, h⟩
  · exact .inl ⟨cut1_miss h, h⟩
  · exact .inr ⟨p, x, rfl, h, cut1_hit h⟩
theorem entGet_good {s R : List UInt8} {l : List Ent} (h : EntAt' s l R) (h1 : (Lib.cut R [59]).2.2 = true) (h2 : (Lib.cut (Lib.cut R [59]).1 [61]).2.2 = true) (h3 : numB (ofL (Lib.cut (Lib.cut R [59]).1 [61]).2.1) = true) :
    EntAt' s (l ++ [⟨ofL (Lib.cut (Lib.cut R [59]).1 [61]).1, numV (ofL (Lib.cut (Lib.cut R [59]).1 [61]).2.1)⟩]) (Lib.cut R [59]).2.1 ∧ (Lib.cut R [59]).2.1.length < R.length := by
  rcases cut1_cases 59 R with ⟨e, _⟩ | ⟨p, x, hR, hp, e⟩
  · rw [e] at h1; cases h1
  · rw [e] at h2 h3 ⊢
    dsimp only at h2 h3 ⊢
    rcases cut1_cases 61 p with ⟨e2, _⟩ | ⟨a, b, hpe, ha, e2⟩
    · rw [e2] at h2; cases h2
    · rw [e2] at h3 ⊢
      dsimp only at h3 ⊢
      have f : (59 : UInt8) ∉ a := fun hm => hp (by rw [hpe]; exact List.mem_append_left _ hm)
      refine ⟨entAt_next (name := ofL a) (num := ofL b) h ?_ (by rw [ofL_data]; exact ha) (by rw [ofL_data]; exact f) h3, ?_⟩
      · rw [ofL_data, ofL_data, hR, hpe]; simp
      · rw [hR]; simp only [List.length_append, List.length_cons]; omega
theorem entGet_bad {s : ByteArray} {R : List UInt8} {l : List Ent} (h : EntAt' s.data.toList l R) (hR : R ≠ []) (hb : (Lib.cut R [59]).2.2 = false ∨ (Lib.cut (Lib.cut R [59]).1 [61]).2.2 = false ∨ numB (ofL (Lib.cut (Lib.cut R [59]).1 [61]).2.1) = false ∨ l.length = 12) : EntG s [] false :=
  .inr ⟨rfl, rfl, fun m hm he => by
    obtain ⟨e, m', e1, e2, e3, e4, e5, e6⟩ := ent_begin h hR hm he
    have f : (59 : UInt8) ∉ e.name.data.toList ++ 61 :: decL e.id := by
      simp only [List.mem_append, List.mem_cons, not_or]
      exact ⟨name_low e4 (by decide), by decide, decL_free (by decide)⟩
    have g1 : Lib.cut R [59] = (e.name.data.toList ++ 61 :: decL e.id, entsL m', true) := by
      rw [e1, ← cut1_hit (x := entsL m') f]
      simp
    rw [g1] at hb
    dsimp only at hb
    rw [cut1_hit (name_low e4 (by decide))] at hb
    dsimp only at hb
    have hn := (numB_dec (s := ofL (decL e.id)) (n := e.id) (by omega) (by omega) (ofL_data _)).1
    rw [hn] at hb
    simp only [Bool.true_eq_false, false_or] at hb
    omega⟩
theorem ents_name_len {l : List Ent} : ∀ e ∈ l, e.name.size ≤ (entsL l).length := by
  induction l with
  | nil => intro e he; cases he
  | cons x r ih =>
    intro e he
    rw [entsL, List.length_append]
    rcases List.mem_cons.1 he with rfl | he
    · have : e.name.data.toList.length = e.name.size := Array.length_toList
      unfold entL
      simp only [List.length_append, List.length_cons]
      omega
    · have := ih e he
      omega
def strLen : Value → Nat
  | .string s => s.size
  | _ => 0
def CutAt (w : World) : Prop := ∃ m : Int, w.cell? ⟨0, 0, none⟩ = some (.int .i64 m)
theorem CutAt.below {w w' : World} (h : CutAt w) (hb : Below w.heap.size w w') : CutAt w' := by
  obtain ⟨m, h1⟩ := h
  exact ⟨m, ((bcell hb).1 _ 0 (Lib.lt_of_cell h1)).trans h1⟩
theorem sclone_any (s : ByteArray) (w : World) (hs : s.size ≤ 1048576) : Calls Tryz.prog 28 #[.string s] w fun e w' => e = .returned (.string s) ∧ Below w.heap.size w w' := by
  have HC := Lib.hid (Tryz.stringslite_Clone s w (by omega))
  go_enter Tryz.func28, Tryz.ntmps28
  go_wp2_with fail
  refine Calls.mono HC.out ?_
  rintro e w2 ⟨rfl, hB⟩
  have HB := Lib.hid hB
  clear hB
  go_wp2_with fail
  go_ret
  exact ⟨rfl, HB.out⟩
theorem cut_any (s : ByteArray) (c : UInt8) (w : World) (hM : CutAt w) (hs : s.size ≤ 1048576) : Calls Tryz.prog 27 #[.string s, .string ⟨#[c]⟩] w fun e w' => e = .returned (.tuple #[.string (ofL (Lib.cut s.data.toList [c]).1), .string (ofL (Lib.cut s.data.toList [c]).2.1), .bool (Lib.cut s.data.toList [c]).2.2]) ∧ Below w.heap.size w w' := by
  obtain ⟨m, hm⟩ := hM
  refine (Tryz.strings_Cut s ⟨#[c]⟩ m w (by omega) hm).mono ?_
  rintro e w' ⟨he, n, rfl⟩
  exact ⟨he, below_drewN (Below.refl _ _) n⟩
theorem cut_size (s : ByteArray) (c : UInt8) : (ofL (Lib.cut s.data.toList [c]).1).size ≤ s.size ∧ (ofL (Lib.cut s.data.toList [c]).2.1).size ≤ s.size := by
  have hs : s.data.toList.length = s.size := Array.length_toList
  rcases cut1_cases c s.data.toList with ⟨e, _⟩ | ⟨p, x, h, _, e⟩
  · rw [e, ofL_size, ofL_size]
    simp only [List.length_nil]
    omega
  · rw [e, ofL_size, ofL_size]
    rw [h] at hs
    simp only [List.length_append, List.length_cons] at hs ⊢
    omega
end Go.Proofs.YthedmiippfpbnaaGreatDoor
