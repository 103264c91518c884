/- Columns of a block: halves, exclusive or: both texts. -/
import Derived.Test.YtamljoffmkcbnaaDrawText
import Derived.Test.YtamljoffmkcbnaaDisk
import Derived.OwnWalk
import Derived.Laws.BitsAllLaws
import Derived.Laws.CopyOwn
namespace Go.Proofs.Ytamljoffmkcbnaa
open Go.RowKit
set_option maxRecDepth 100000
set_option linter.unusedVariables false
set_option linter.unusedSimpArgs false

def xb (l : List UInt8) (i : Nat) : UInt8 := l.getD i 0
/-- The exclusive or of two texts, as long as the first. -/
def xorK (a b : List UInt8) : List UInt8 := (List.range a.length).map fun i => xb a i ^^^ xb b i
theorem xorK_length (a b : List UInt8) : (xorK a b).length = a.length := by simp [xorK]
theorem xorK_get {a b : List UInt8} {i : Nat} (h : i < a.length) : (xorK a b)[i]? = some (xb a i ^^^ xb b i) := by simp [xorK, h]
theorem xb_get {l : List UInt8} {i : Nat} {x : UInt8} (h : l[i]? = some x) : xb l i = x := by unfold xb; rw [List.getD_eq_getElem?_getD, h]; rfl
theorem xb_out {l : List UInt8} {i : Nat} (h : l.length ≤ i) : xb l i = 0 := by unfold xb; rw [List.getD_eq_getElem?_getD, List.getElem?_eq_none h]; rfl
theorem xorK_none (a : List UInt8) : xorK a [] = a := by
  apply List.ext_getElem?
  intro i
  by_cases h : i < a.length
  · rw [xorK_get h, xb_out (l := []) (Nat.zero_le _), xb_get (List.getElem?_eq_getElem h), UInt8.xor_zero, List.getElem?_eq_getElem h]
  · rw [List.getElem?_eq_none (by rw [xorK_length]; omega), List.getElem?_eq_none (by omega)]
theorem xb_take {l : List UInt8} {k i : Nat} : xb (l.take k) i = if i < k then xb l i else 0 := by
  unfold xb
  rw [List.getD_eq_getElem?_getD, List.getD_eq_getElem?_getD, List.getElem?_take]
  split
  · rfl
  · rfl
theorem xorK_step {a b : List UInt8} {k : Nat} (h : k < a.length) (hb : k < b.length) : (xorK a (b.take k)).set k (xb a k ^^^ xb b k) = xorK a (b.take (k + 1)) := by
  apply List.ext_getElem?
  intro i
  by_cases hi : i < a.length
  · by_cases hk : i = k
    · subst hk
      rw [List.getElem?_set_self (by rw [xorK_length]; exact hi), xorK_get hi, xb_take, if_pos (by omega)]
    · rw [List.getElem?_set_ne (by omega), xorK_get hi, xorK_get hi, xb_take, xb_take]
      by_cases h1 : i < k
      · rw [if_pos h1, if_pos (by omega)]
      · rw [if_neg h1, if_neg (by omega)]
  · rw [List.getElem?_eq_none (by simp [xorK_length]; omega), List.getElem?_eq_none (by rw [xorK_length]; omega)]
theorem xorK_at {a b : List UInt8} {k : Nat} (h : k < a.length) : (xorK a (b.take k))[k]? = some (xb a k) := by
  rw [xorK_get h, xb_take, if_neg (by omega), UInt8.xor_zero]
def xorS (a b : ByteArray) : ByteArray := ⟨(xorK a.data.toList b.data.toList).toArray⟩
theorem xorS_size (a b : ByteArray) : (xorS a b).size = a.size := by
  show (xorK a.data.toList b.data.toList).toArray.size = _
  rw [List.size_toArray, xorK_length]
  rfl
theorem xor8 (x y : UInt8) : bits .xor .u8 (x.toNat : Int) (y.toNat : Int) = ((x ^^^ y).toNat : Int) := by
  rw [u8_xor_nat _ _ x.toNat_lt y.toNat_lt, UInt8.toNat_xor]

theorem wpList_convertB {P : Program} {w w' : World} {ops : Array Oper} {rest : List Oper} {o : Oper} {a : Act} {Q : Exit → Act → World → Prop} (hg : o.guard = none) (src dst : TypeId) (x : Operand) (ho : o.op = Op.convert src dst x) {v r : Value} (hx : a.eval x = v) (hrun : (convert src dst v).run P w = .ok r w') (h : wpList P ops Q rest (a.put o.dst r) w') : wpList P ops Q (o :: rest) a w :=
  wpList_plain hg fun K hK => by
    unfold Oper.wp
    simp [execOp, ho, hx, hrun, Result.andThen]
    exact hK _ _ h
/-- A row of bytes turned to a string. -/
theorem conv_bytes {base : Nat} {wr : World} {v : Value} {l : List UInt8} (h : Own encB 1 5 base wr v l) (hv : v.ownBlock ≠ none) : (convert 22 9 v).run Try.prog wr = .ok (.string ⟨l.toArray⟩) wr := by
  obtain ⟨A, cap, rfl, h1, h2, _, h3⟩ := h.form
  rcases h.2 with ⟨hv', _⟩ | ⟨g, cap', cur, hv', _⟩
  · rw [hv'] at hv; exact absurd rfl hv
  · cases hv'
    exact run_convert_bytes_back (P := Try.prog) wr 22 9 5 ⟨g, 0, none⟩ cap l Try.underlying22 Try.underlying5 Try.underlying9 (fun j hj => by
      obtain ⟨b, off, hx, hr⟩ := h3 (by omega)
      cases hx
      have := hr.2 j l[j] (List.getElem?_eq_getElem hj) 0 (by omega)
      rw [addr_add]
      simpa [encB] using this)
/-- 'copy' from a string into a row that is as long. -/
theorem run_copy_str {P : Program} {w : World} (dT sT ty elem : TypeId) (hu : P.underlying dT = some (.slice elem)) (hsz : (P.info? elem).map (·.size) = some 1)
    (g dCap : Nat) (t : ByteArray) (cur : Array Value) (T : TypeId) (hg : w.heap[g]? = some (.cells cur T (0, 0))) (hcur : t.size ≤ cur.size) :
    (Builtin.copy_ #[dT, sT] ty #[.slice (some ⟨g, 0, none⟩) t.size dCap, .string t]).run P w = .ok (goInt t.size) (w.setRow g ((t.data.toList.map fun b => Value.int .u8 (b.toNat : Int)) ++ cur.toList.drop t.size).toArray) := by
  have hl : (t.data.toList.map fun b => Value.int .u8 (b.toNat : Int)).length = t.size := by rw [List.length_map]; rfl
  have hst := run_storeCells_at P g 0 T (t.data.toList.map fun b => Value.int .u8 (b.toNat : Int)) 0 cur w hg (by rw [hl]; omega) (fun x hx => by obtain ⟨b, _, rfl⟩ := List.mem_map.1 hx; rfl)
  cases hq : P.info? elem with
  | none => simp [hq] at hsz
  | some i =>
    have hi : i.size = 1 := by simpa [hq] using hsz
    have he : (t.extract 0 t.size) = t := by simp
    simp [Builtin.copy_, run_underlying hu, Builtin.lenOf, Builtin.firstCells, sizeOf, typeInfo, hq, hi, he, Array.toList_map]
    rw [List.take_of_length_le (by rw [hl]; exact Nat.le_refl _), hst]
    simp

theorem own_copied {base g n cap T : Nat} {w : World} {cur : Array Value} (hb : base ≤ g) (hh : w.heap[g]? = some (.cells cur T (0, 0))) (hn : n ≤ cap) (hm : cap ≤ maxLen) (hsz : cur.size = cap * 1) (l : List UInt8) (hl : l.length = n) :
    Own encB 1 T base (w.setRow g ((l.map fun b => Value.int .u8 (b.toNat : Int)) ++ cur.toList.drop n).toArray) (.slice (some ⟨g, 0, none⟩) n cap) l := by
  subst hl
  have hc : cellsOf encB 1 l = l.map fun b => Value.int .u8 (b.toNat : Int) := by
    clear hh hn hm hsz
    induction l with
    | nil => rfl
    | cons a l ih => simp [cellsOf, encB] at ih ⊢; exact ih
  refine ⟨by rw [hc]; simp, .inr ⟨g, cap, _, rfl, hb, setRow_heap w g cur _ T _ hh, hn, hm, ?_, ?_⟩⟩
  · simp; omega
  · rw [hc]; simp
theorem idx_byte {s : ByteArray} {k : Nat} (h : k < s.size) : s.data.toList[k]? = some s[k] := by
  have h' : k < s.data.toList.length := h
  rw [List.getElem?_eq_getElem h']
  rfl
set_option maxHeartbeats 2000000 in
theorem xor_any (w : World) (a b : ByteArray) (hb : b.size ≤ a.size) (hn : a.size ≤ 128) (h1 : 1 ≤ a.size) :
    Calls Try.prog 76 #[.string a, .string b, .int .i64 a.size] w fun e w' => e = .returned (.string (xorS a b)) ∧ Below w.heap.size w w' := by
  obtain ⟨i0, hi, hz0, hz1, hz2⟩ := info_parts info_byte
  have hsz1 : (Try.prog.info? 5).map (·.size) = some 1 := by rw [hi]; simp [hz1]
  have HXS := Lib.hid (show ∀ l, l = xorK a.data.toList b.data.toList → (⟨l.toArray⟩ : ByteArray) = xorS a b from fun l h => by rw [h]; rfl)
  rcases (show b.size = a.size ∨ b.size < a.size by omega) with hba | hba
  · go_enter Try.func76, Try.ntmps76
    go_wp2_with (at_make; refine wpList_make_full _ rfl _ _ 22 rfl w.heap.size 5 i0 _ 1 Try.underlying22 hi hz0 hz1 .i64 .i64 _ _ a.size rfl rfl rfl rfl (by rw [hz2]; omega) (by unfold maxLen; omega) (Nat.le_refl _) ?_; intro w1 hown hgrow)
    obtain ⟨cap, cur, hv, hh, hcn, hcm, hcs⟩ : ∃ cap cur, Value.slice (some ⟨w.heap.size, 0, none⟩) a.size a.size = .slice (some ⟨w.heap.size, 0, none⟩) a.size cap ∧ w1.heap[w.heap.size]? = some (.cells cur 5 (0, 0)) ∧ a.size ≤ cap ∧ cap ≤ maxLen ∧ cur.size = cap * 1 := by
      rcases hown.2 with ⟨hv, _⟩ | ⟨g, cap, cur, hv, hg, hh, hn', hm', hs', _⟩
      · cases hv
      · cases hv
        exact ⟨_, cur, rfl, hh, hn', hm', hs'⟩
    cases hv
    obtain ⟨w2, hw2⟩ : ∃ w2, w2 = w1.setRow w.heap.size ((a.data.toList.map fun b => Value.int .u8 (b.toNat : Int)) ++ cur.toList.drop a.size).toArray := ⟨_, rfl⟩
    rw [run_copy_str 22 9 _ 5 Try.underlying22 hsz1 w.heap.size _ a cur 5 hh (by omega), ← hw2]
    have hO2 := own_copied (base := w.heap.size) (Nat.le_refl _) hh hcn hcm hcs a.data.toList rfl
    rw [← hw2] at hO2
    have hB2 : Below w.heap.size w w2 := by rw [hw2]; exact below_setRow ((Below.refl _ _).grown hgrow (Nat.le_refl _) (fun k hk => by cases hk)) (Nat.le_refl _) _
    have HO2 := Lib.hid hO2
    have HB2 := Lib.hid hB2
    clear hO2 hB2 hown hgrow hh hcn hcm hcs hw2 hi hz0 hz1 hz2 hsz1
    go_wp2_with fail
    go_loopw [18] (fun y wr => ∃ k : Nat, k ≤ a.size ∧ y = .int .i64 k ∧ Hid (wr.ownsRow w.heap.size 5 1 (.slice (some ⟨w.heap.size, 0, none⟩) a.size a.size) a.size (cellsOf encB 1 (xorK a.data.toList (b.data.toList.take k)))) ∧ Hid (Below w.heap.size w wr)) (fun y _ => a.size - (intOf y).toNat)
    case atStart => exact ⟨0, Nat.zero_le _, rfl, by rw [List.take_zero, xorK_none]; exact HO2, HB2⟩
    case round =>
      obtain ⟨k, hk, rfl, HO, HB⟩ := hrel
      by_cases hlt : k < a.size
      · have k2 : IntKind.i64.wrap ((k : Int) + 1) = (k : Int) + 1 := IntWalk.i64_in _ (by omega)
        have hltb : k < b.size := by omega
        have hO := HO.out
        have hla : a.data.toList.length = a.size := rfl
        have hlb : b.data.toList.length = b.size := rfl
        have hl : (cellsOf encB 1 (xorK a.data.toList (b.data.toList.take k))).length = a.size * 1 := hO.1
        have hget : (cellsOf encB 1 (xorK a.data.toList (b.data.toList.take k)))[k]? = some (.int .u8 ((xb a.data.toList k).toNat : Int)) := by
          have := cellsOf_get (enc := encB) (sz := 1) (xorK a.data.toList (b.data.toList.take k)) k 0 _ (xorK_at (by rw [hla]; omega)) (by omega)
          simpa [encB] using this
        have c0 : wr.cell? ⟨w.heap.size, k, none⟩ = some (.int .u8 ((xb a.data.toList k).toNat : Int)) := (hO.cellAt k (by omega)).trans hget
        have f0 := hO.frozenAt k
        have HX := Lib.hid (xor8 (xb a.data.toList k) b[k])
        have HS := Lib.hid (show xb b.data.toList k = b[k] from xb_get (idx_byte hltb))
        have hsz : w.heap.size < wr.heap.size := by
          rcases Nat.lt_or_ge w.heap.size wr.heap.size with h' | h'
          · exact h'
          · have : wr.cell? ⟨w.heap.size, k, none⟩ = none := by unfold World.cell?; rw [Array.getElem?_eq_none h']
            rw [this] at c0; cases c0
        have HN := Lib.hid (show (wr.setCell ⟨w.heap.size, k, none⟩ (.int .u8 (bits .xor .u8 ((xb a.data.toList k).toNat : Int) ((b[k]).toNat : Int)))).ownsRow w.heap.size 5 1 (.slice (some ⟨w.heap.size, 0, none⟩) a.size a.size) a.size (cellsOf encB 1 (xorK a.data.toList (b.data.toList.take (k + 1)))) from by
          have h1 := (hO.stored k (.int .u8 (bits .xor .u8 ((xb a.data.toList k).toNat : Int) ((b[k]).toNat : Int)))).1
          have e := cellsOf_set1 (enc := encB) (xorK a.data.toList (b.data.toList.take k)) k (xb a.data.toList k ^^^ b[k]) (by rw [xorK_length, hla]; omega)
          have e2 := xorK_step (a := a.data.toList) (b := b.data.toList) (k := k) (by rw [hla]; omega) (by rw [hlb]; omega)
          rw [HS.out] at e2
          rw [e2] at e
          rw [← e]
          rw [HX.out] at h1 ⊢
          exact h1)
        have hka : k < a.size := by omega
        clear hl hget hO hla hlb HX HS HO
        go_wp2_with fail
        --S6
        go_region_law (fail)
        all_goals go_wp2_with fail
        all_goals exact ⟨⟨k + 1, by omega, by go_num, Lib.hid HN.out, Lib.hid (Below.drew (below_set HB.out (by dsimp only; omega) _))⟩, by simp [intOf]; omega⟩
      · obtain rfl : k = a.size := by omega
        have HE := Lib.hid (HXS.out _ (show xorK a.data.toList (b.data.toList.take a.size) = _ by rw [List.take_of_length_le (show b.data.toList.length ≤ a.size from Nat.le_of_eq hba)]))
        have hcv := conv_bytes (base := w.heap.size) (wr := wr) (v := .slice (some ⟨w.heap.size, 0, none⟩) a.size a.size) (l := xorK a.data.toList (b.data.toList.take a.size)) (by
          have := HO.out
          unfold Own
          rw [xorK_length]
          exact this) (by simp [Value.ownBlock])
        rw [HE.out] at hcv
        clear HE
        go_wp2_with (refine wpList_convertB rfl _ _ _ rfl rfl hcv ?_)
        go_ret
        exact ⟨rfl, HB.out⟩
  · have hnl : ¬ (a.size : Int) ≤ (b.size : Int) := by omega
    go_enter Try.func76, Try.ntmps76
    go_wp2_with (at_make; refine wpList_make_full _ rfl _ _ 22 rfl w.heap.size 5 i0 _ 1 Try.underlying22 hi hz0 hz1 .i64 .i64 _ _ a.size rfl rfl rfl rfl (by rw [hz2]; omega) (by unfold maxLen; omega) (Nat.le_refl _) ?_; intro w1 hown hgrow)
    obtain ⟨cap, cur, hv, hh, hcn, hcm, hcs⟩ : ∃ cap cur, Value.slice (some ⟨w.heap.size, 0, none⟩) a.size a.size = .slice (some ⟨w.heap.size, 0, none⟩) a.size cap ∧ w1.heap[w.heap.size]? = some (.cells cur 5 (0, 0)) ∧ a.size ≤ cap ∧ cap ≤ maxLen ∧ cur.size = cap * 1 := by
      rcases hown.2 with ⟨hv, _⟩ | ⟨g, cap, cur, hv, hg, hh, hn', hm', hs', _⟩
      · cases hv
      · cases hv
        exact ⟨_, cur, rfl, hh, hn', hm', hs'⟩
    cases hv
    obtain ⟨w2, hw2⟩ : ∃ w2, w2 = w1.setRow w.heap.size ((a.data.toList.map fun b => Value.int .u8 (b.toNat : Int)) ++ cur.toList.drop a.size).toArray := ⟨_, rfl⟩
    rw [run_copy_str 22 9 _ 5 Try.underlying22 hsz1 w.heap.size _ a cur 5 hh (by omega), ← hw2]
    have hO2 := own_copied (base := w.heap.size) (Nat.le_refl _) hh hcn hcm hcs a.data.toList rfl
    rw [← hw2] at hO2
    have hB2 : Below w.heap.size w w2 := by rw [hw2]; exact below_setRow ((Below.refl _ _).grown hgrow (Nat.le_refl _) (fun k hk => by cases hk)) (Nat.le_refl _) _
    have HO2 := Lib.hid hO2
    have HB2 := Lib.hid hB2
    clear hO2 hB2 hown hgrow hh hcn hcm hcs hw2 hi hz0 hz1 hz2 hsz1
    go_wp2_with fail
    go_loopw [18] (fun y wr => ∃ k : Nat, k ≤ b.size ∧ y = .int .i64 k ∧ Hid (wr.ownsRow w.heap.size 5 1 (.slice (some ⟨w.heap.size, 0, none⟩) a.size a.size) a.size (cellsOf encB 1 (xorK a.data.toList (b.data.toList.take k)))) ∧ Hid (Below w.heap.size w wr)) (fun y _ => b.size - (intOf y).toNat)
    case atStart => exact ⟨0, Nat.zero_le _, rfl, by rw [List.take_zero, xorK_none]; exact HO2, HB2⟩
    case round =>
      obtain ⟨k, hk, rfl, HO, HB⟩ := hrel
      by_cases hlt : k < b.size
      · have k2 : IntKind.i64.wrap ((k : Int) + 1) = (k : Int) + 1 := IntWalk.i64_in _ (by omega)
        have hO := HO.out
        have hla : a.data.toList.length = a.size := rfl
        have hlb : b.data.toList.length = b.size := rfl
        have hl : (cellsOf encB 1 (xorK a.data.toList (b.data.toList.take k))).length = a.size * 1 := hO.1
        have hget : (cellsOf encB 1 (xorK a.data.toList (b.data.toList.take k)))[k]? = some (.int .u8 ((xb a.data.toList k).toNat : Int)) := by
          have := cellsOf_get (enc := encB) (sz := 1) (xorK a.data.toList (b.data.toList.take k)) k 0 _ (xorK_at (by rw [hla]; omega)) (by omega)
          simpa [encB] using this
        have c0 : wr.cell? ⟨w.heap.size, k, none⟩ = some (.int .u8 ((xb a.data.toList k).toNat : Int)) := (hO.cellAt k (by omega)).trans hget
        have f0 := hO.frozenAt k
        have HX := Lib.hid (xor8 (xb a.data.toList k) b[k])
        have HS := Lib.hid (show xb b.data.toList k = b[k] from xb_get (idx_byte hlt))
        have hsz : w.heap.size < wr.heap.size := by
          rcases Nat.lt_or_ge w.heap.size wr.heap.size with h' | h'
          · exact h'
          · have : wr.cell? ⟨w.heap.size, k, none⟩ = none := by unfold World.cell?; rw [Array.getElem?_eq_none h']
            rw [this] at c0; cases c0
        have HN := Lib.hid (show (wr.setCell ⟨w.heap.size, k, none⟩ (.int .u8 (bits .xor .u8 ((xb a.data.toList k).toNat : Int) ((b[k]).toNat : Int)))).ownsRow w.heap.size 5 1 (.slice (some ⟨w.heap.size, 0, none⟩) a.size a.size) a.size (cellsOf encB 1 (xorK a.data.toList (b.data.toList.take (k + 1)))) from by
          have h1 := (hO.stored k (.int .u8 (bits .xor .u8 ((xb a.data.toList k).toNat : Int) ((b[k]).toNat : Int)))).1
          have e := cellsOf_set1 (enc := encB) (xorK a.data.toList (b.data.toList.take k)) k (xb a.data.toList k ^^^ b[k]) (by rw [xorK_length, hla]; omega)
          have e2 := xorK_step (a := a.data.toList) (b := b.data.toList) (k := k) (by rw [hla]; omega) (by rw [hlb]; omega)
          rw [HS.out] at e2
          rw [e2] at e
          rw [← e]
          rw [HX.out] at h1 ⊢
          exact h1)
        have hka : k < a.size := by omega
        clear hl hget hO hla hlb HX HS HO
        go_wp2_with fail
        --S6
        go_region_law (fail)
        all_goals go_wp2_with fail
        all_goals exact ⟨⟨k + 1, by omega, by go_num, Lib.hid HN.out, Lib.hid (Below.drew (below_set HB.out (by dsimp only; omega) _))⟩, by simp [intOf]; omega⟩
      · obtain rfl : k = b.size := by omega
        have HE := Lib.hid (HXS.out _ (show xorK a.data.toList (b.data.toList.take b.size) = _ by rw [List.take_of_length_le (show b.data.toList.length ≤ b.size from Nat.le_refl _)]))
        have hcv := conv_bytes (base := w.heap.size) (wr := wr) (v := .slice (some ⟨w.heap.size, 0, none⟩) a.size a.size) (l := xorK a.data.toList (b.data.toList.take b.size)) (by
          have := HO.out
          unfold Own
          rw [xorK_length]
          exact this) (by simp [Value.ownBlock])
        rw [HE.out] at hcv
        clear HE
        go_wp2_with (refine wpList_convertB rfl _ _ _ rfl rfl hcv ?_)
        go_ret
        exact ⟨rfl, HB.out⟩

end Go.Proofs.Ytamljoffmkcbnaa
