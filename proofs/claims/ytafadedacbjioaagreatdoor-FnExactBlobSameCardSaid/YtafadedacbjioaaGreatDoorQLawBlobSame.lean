/- TreeGet: both texts' walks. -/
import Derived.Test.YtafadedacbjioaaGreatDoorMC
import Derived.Deep.RegionHeld3
import Derived.Deep.CutRange
namespace Go.Proofs.YtafadedacbjioaaGreatDoor
open Go.RowKit Go.Sort
set_option maxRecDepth 100000
set_option linter.unusedVariables false
set_option linter.unusedSimpArgs false

def wideOf (out : List Pt) : List Pt := out ++ List.replicate (16 - out.length) hole
theorem wide_len {out : List Pt} (h : out.length ≤ 16) : (wideOf out).length = 16 := by simp [wideOf]; omega
theorem wide_get {out : List Pt} {k : Nat} (h : k < out.length) : (wideOf out)[k]? = out[k]? := by rw [wideOf, List.getElem?_append_left h]
set_option maxHeartbeats 4000000 in
theorem l8Wide_any (w : World) (R : Option Addr) (nR cR : Nat) (A B G D : Option Addr) (nA cA nB cB nG cG nD cD : Nat) (t k : Int) (sm : Bool) (rows : List ByteArray) (root : Pt) (d : Nat) (m : Int) (out : List Pt) (h : RdT encS 1 w R rows) (hl : rows.length = nR) (h64 : nR = 64) (hz : ∀ x ∈ rows, x.size ≤ 9223372036854775807) (hp : ptrB root = true) (ht : 0 ≤ t) (hd : d ≤ 2) (hlv : LvOk rows t d [root] out) (h16 : out.length ≤ 16) :
    Calls Tryz.prog 77 #[.agg #[.slice R nR cR, .slice A nA cA, .slice B nB cB, .int .i64 t, .slice G nG cG, .int .i64 k, .slice D nD cD, .bool sm], (Tr.mk root d m).v] w fun e w' => ∃ v, e = .returned v ∧ Own encP 5 40 w.heap.size w' v (wideOf out) ∧ Below w.heap.size w w' := by
  have HLV := Lib.hid (fun W (hW : Below w.heap.size w W) => l8Leaves_any W R nR cR A B G D nA cA nB cB nG cG nD cD t k sm rows root d m (h.below hW) hl h64 hz hp ht hd)
  have HLU := Lib.hid (fun l (hl : LvOk rows t d [root] l) => lvOk_one hl hlv)
  have HLN := Lib.hid (fun (hl : ∀ o, ¬ LvOk rows t d [root] o) => hl out hlv)
  have H16 := Lib.hid h16
  unfold LvP at HLV
  clear h hl h64 hz hp ht hd hlv h16
  generalize LvOk rows t d [root] = P2 at *
  obtain ⟨ra, rb, rs, ru, rl⟩ := root
  unfold Tr.v at *
  dsimp only at *
  have BS := Lib.hid ((box_new w #[.slice R nR cR, .slice A nA cA, .slice B nB cB, .int .i64 t, .slice G nG cG, .int .i64 k, .slice D nD cD, .bool sm] 38).alloc (.cells #[.int .i64 ra, .int .i64 rb, .int .i64 rs, .int .i64 ru, .int .i64 rl, .int .i64 (d : Int), .int .i64 m] 42))
  have BT := box_new (w.alloc (.cells #[.slice R nR cR, .slice A nA cA, .slice B nB cB, .int .i64 t, .slice G nG cG, .int .i64 k, .slice D nD cD, .bool sm] 38)) #[.int .i64 ra, .int .i64 rb, .int .i64 rs, .int .i64 ru, .int .i64 rl, .int .i64 (d : Int), .int .i64 m] 42
  rw [World.size_alloc] at BT
  replace BT := Lib.hid BT
  have HBa := Lib.hid (below_alloc (below_alloc (Below.refl w.heap.size w) (.cells #[.slice R nR cR, .slice A nA cA, .slice B nB cB, .int .i64 t, .slice G nG cG, .int .i64 k, .slice D nD cD, .bool sm] 38)) (.cells #[.int .i64 ra, .int .i64 rb, .int .i64 rs, .int .i64 ru, .int .i64 rl, .int .i64 (d : Int), .int .i64 m] 42))
  go_enter Tryz.func77, Tryz.ntmps77
  go_wp2_with fail
  refine Calls.mono (HLV.out _ HBa.out) ?_
  rintro e w3 ⟨v, l, b, rfl, hG1, hG2, hB⟩
  cases b
  · exact (HLN.out (hG2 rfl)).elim
  obtain ⟨hl, hpt, h16, hO⟩ := hG1 rfl
  obtain rfl := HLU.out l hl
  obtain ⟨A9, c9, rfl, q1, q2, _, hrd⟩ := hO.form
  have HB3 := Lib.hid (below_below HBa.out hB)
  have K1 := Lib.hid (And.intro (show (([] : List Pt).length + l.length) * 40 ≤ 140737488355328 by simp; omega) (show ([] : List Pt).length + l.length ≤ maxLen by simp; unfold maxLen; omega))
  have HE := Lib.hid (show Own encP 5 40 w3.heap.size (w3.alloc (.cells #[] 40)) (.slice (some ⟨w3.heap.size, 0, none⟩) 0 0) ([] : List Pt) from Own.empty (Nat.le_refl _))
  have HRa := Lib.hid (hrd.below ((Below.refl _ _).alloc (Nat.le_refl _) (.cells #[] 40)))
  have HBe := Lib.hid (below_alloc (Below.refl w3.heap.size w3) (.cells #[] 40))
  have hsub : (16 : Int) - (l.length : Int) = ((16 - l.length : Nat) : Int) := by omega
  have hwr : IntKind.i64.wrap ((16 - l.length : Nat) : Int) = ((16 - l.length : Nat) : Int) := IntWalk.i64_in _ (by omega)
  have HHO := Lib.hid (fun W => holes_any (16 - l.length) W (by omega))
  have K2 := Lib.hid (And.intro (show (([] ++ l : List Pt).length + (List.replicate (16 - l.length) hole).length) * 40 ≤ 140737488355328 by simp; omega) (show ([] ++ l : List Pt).length + (List.replicate (16 - l.length) hole).length ≤ maxLen by simp; unfold maxLen; omega))
  have HWD := Lib.hid (show ([] ++ l : List Pt) ++ List.replicate (16 - l.length) hole = wideOf l from rfl)
  have HRL := Lib.hid (show 16 - l.length = (List.replicate (16 - l.length) hole).length by simp)
  clear hB hG1 hG2 hl hpt hO hrd BS BT HLV HLU HLN H16 h16
  generalize hn16 : 16 - l.length = n16 at *
  generalize hn9 : l.length = n9 at *
  have HN9 := Lib.hid hn9
  clear hn9 hn16
  go_wp2_with (at_builtin; refine wpList_app (ys := (l : List Pt)) elP rfl _ _ rfl (by rfl) HE.out (by rfl) HN9.out.symm HRa.out oneP (by have := K1.out.1; rw [HN9.out]; exact this) (by have := K1.out.2; rw [HN9.out]; exact this) HBe.out.size ?_; intro v1 w4 ownv1 grv1 atv1)
  refine Calls.mono (HHO.out _) ?_
  rintro e w5 ⟨v5, rfl, hO5, hB5⟩
  obtain ⟨A5, c5, rfl, _, _, _, hr5⟩ := hO5.form
  have HR5 := Lib.hid hr5
  have HB14 := Lib.hid (below_grown HBe.out HE.out grv1)
  have HB15 := Lib.hid (below_below HB14.out hB5)
  have HO5 := Lib.hid (ownv1.below hB5)
  have e16 : (List.replicate n16 hole).length = n16 := List.length_replicate
  rw [e16]
  clear hr5 hO5 hB5 ownv1 grv1 atv1 HE HRa HBe HB14
  go_wp2_with (at_builtin; refine wpList_app (ys := (List.replicate n16 hole : List Pt)) elP rfl _ _ rfl (by rfl) HO5.out (by rfl) e16.symm HR5.out oneP K2.out.1 K2.out.2 HB15.out.size ?_; intro v2 w6 ownv2 grv2 atv2)
  go_ret
  exact ⟨_, rfl, own_lowerP (by rw [← HWD.out]; exact ownv2) HB3.out.size, below_below HB3.out (below_grown HB15.out HO5.out grv2)⟩
set_option maxHeartbeats 4000000 in
theorem l8Get_any (w : World) (R : Option Addr) (nR cR : Nat) (A B G D : Option Addr) (nA cA nB cB nG cG nD cD : Nat) (t k : Int) (sm : Bool) (rows : List ByteArray) (root : Pt) (d : Nat) (m : Int) (out : List Pt) (h : RdT encS 1 w R rows) (hl : rows.length = nR) (h64 : nR = 64) (hz : ∀ x ∈ rows, x.size ≤ 9223372036854775807) (hp : ptrB root = true) (ht : 0 ≤ t) (hd : d ≤ 2) (hlv : LvOk rows t d [root] out) (h16 : out.length ≤ 16) (kk : Nat) (p : Pt) (hk : out[kk]? = some p) (hpp : ptrB p = true) :
    Calls Tryz.prog 55 #[.agg #[.slice R nR cR, .slice A nA cA, .slice B nB cB, .int .i64 t, .slice G nG cG, .int .i64 k, .slice D nD cD, .bool sm], (Tr.mk root d m).v, .int .i64 kk] w fun e w' => e = .returned (.string (readT rows p)) ∧ Below w.heap.size w w' := by
  have HW := Lib.hid (fun W (hW : Below w.heap.size w W) => l8Wide_any W R nR cR A B G D nA cA nB cB nG cG nD cD t k sm rows root d m out (h.below hW) hl h64 hz hp ht hd hlv h16)
  have HRD := Lib.hid (fun W (hW : Below w.heap.size w W) => l7Read_any W R nR cR A B G D nA cA nB cB nG cG nD cD t k sm rows p (h.below hW) hl h64 hz hpp)
  have hkl : kk < out.length := (List.getElem?_eq_some_iff.1 hk).1
  have HE := Lib.hid (show (wideOf out)[kk]? = some p by rw [wide_get hkl]; exact hk)
  have hk16 : kk < 16 := by omega
  have hk16i : (kk : Int) < 16 := by omega
  have hk0i : (0 : Int) ≤ (kk : Int) := by omega
  have H16 := Lib.hid (wide_len h16)
  clear h hl h64 hz hp ht hd hlv hpp hk hkl h16
  generalize wideOf out = ws at *
  obtain ⟨ra, rb, rs, ru, rl⟩ := root
  obtain ⟨pa, pb, ps, pu, pl⟩ := p
  unfold Tr.v at *
  unfold Pt.v at HRD
  dsimp only at *
  generalize readT rows ⟨pa, pb, ps, pu, pl⟩ = RT at *
  generalize readB rows ⟨pa, pb, ps, pu, pl⟩ = RB at *
  have BS := Lib.hid ((box_new w #[.slice R nR cR, .slice A nA cA, .slice B nB cB, .int .i64 t, .slice G nG cG, .int .i64 k, .slice D nD cD, .bool sm] 38).alloc (.cells #[.int .i64 ra, .int .i64 rb, .int .i64 rs, .int .i64 ru, .int .i64 rl, .int .i64 (d : Int), .int .i64 m] 42))
  have BT := box_new (w.alloc (.cells #[.slice R nR cR, .slice A nA cA, .slice B nB cB, .int .i64 t, .slice G nG cG, .int .i64 k, .slice D nD cD, .bool sm] 38)) #[.int .i64 ra, .int .i64 rb, .int .i64 rs, .int .i64 ru, .int .i64 rl, .int .i64 (d : Int), .int .i64 m] 42
  rw [World.size_alloc] at BT
  replace BT := Lib.hid BT
  have HBa := Lib.hid (below_alloc (below_alloc (Below.refl w.heap.size w) (.cells #[.slice R nR cR, .slice A nA cA, .slice B nB cB, .int .i64 t, .slice G nG cG, .int .i64 k, .slice D nD cD, .bool sm] 38)) (.cells #[.int .i64 ra, .int .i64 rb, .int .i64 rs, .int .i64 ru, .int .i64 rl, .int .i64 (d : Int), .int .i64 m] 42))
  go_enter Tryz.func55, Tryz.ntmps55
  go_wp2_with fail
  refine Calls.mono (HW.out _ HBa.out) ?_
  rintro e w3 ⟨v, rfl, hO, hB⟩
  obtain ⟨A9, c9, rfl, q1, q2, _, hrd⟩ := hO.form
  have hr2 := hrd
  obtain ⟨b9, o9, rfl, hb9, _⟩ := hr2 (by rw [H16.out]; omega)
  have HR := Lib.hid hrd
  have HB3 := Lib.hid (below_below HBa.out hB)
  have BS3 := Lib.hid (BS.out.below hB)
  obtain ⟨c0, c1, c2, c3, c4⟩ := row5_cells HR.out HE.out
  obtain ⟨s0, s1, s2, s3, s4, s5, s6, s7⟩ := st8_cells BS3.out
  have hbl := BS3.out.lt
  rw [H16.out] at q1
  rw [H16.out]
  clear hB hO hrd hr2 BS BT HBa HW
  go_wp2_with fail
  go_region_held3 (fun w' => (w'.cell? ⟨w.heap.size, 0, none⟩ = some (.slice R nR cR) ∧ w'.cell? ⟨w.heap.size, 1, none⟩ = some (.slice A nA cA) ∧ w'.cell? ⟨w.heap.size, 2, none⟩ = some (.slice B nB cB) ∧ w'.cell? ⟨w.heap.size, 3, none⟩ = some (.int .i64 t) ∧ w'.cell? ⟨w.heap.size, 4, none⟩ = some (.slice G nG cG) ∧ w'.cell? ⟨w.heap.size, 5, none⟩ = some (.int .i64 k) ∧ w'.cell? ⟨w.heap.size, 6, none⟩ = some (.slice D nD cD) ∧ w'.cell? ⟨w.heap.size, 7, none⟩ = some (.bool sm)) ∧ (w'.cell? ⟨b9, o9 + kk * 5, none⟩ = some (.int .i64 pa) ∧ w'.cell? ⟨b9, o9 + kk * 5 + 1, none⟩ = some (.int .i64 pb) ∧ w'.cell? ⟨b9, o9 + kk * 5 + 2, none⟩ = some (.int .i64 ps) ∧ w'.cell? ⟨b9, o9 + kk * 5 + 3, none⟩ = some (.int .i64 pu) ∧ w'.cell? ⟨b9, o9 + kk * 5 + 4, none⟩ = some (.int .i64 pl))) (first | exact ⟨st8_cells (BS3.out.below (by (repeat (first | assumption | exact Below.refl _ _ | refine below_alloc ?_ _ | refine Below.drew ?_ | refine below_drewN ?_ _ | refine below_below ?_ (by assumption))))), row5_cells (HR.out.below (by (repeat (first | assumption | exact Below.refl _ _ | refine below_alloc ?_ _ | refine Below.drew ?_ | refine below_drewN ?_ _ | refine below_below ?_ (by assumption))))) HE.out⟩)
    (first
      | (go_at_call 76; refine Calls.mono (HRD.out _ (by refine below_below HB3.out ?_; (repeat (first | assumption | exact Below.refl _ _ | refine below_alloc ?_ _ | refine Below.drew ?_ | refine below_drewN ?_ _ | refine below_below ?_ (by assumption))))) ?_; rintro e w5 ⟨rfl, hB5⟩))
  go_wp2_with fail
  go_ret
  exact ⟨rfl, below_below HB3.out (by (repeat (first | assumption | exact Below.refl _ _ | refine below_alloc ?_ _ | refine Below.drew ?_ | refine below_drewN ?_ _ | refine below_below ?_ (by assumption))))⟩
def TGG (s : St) (tr : Tr) (k : Int) (txt : ByteArray) (b : Bool) : Prop := ∃ l bl, TLG s tr l bl ∧ b = (bl && inB k 0 ((l.length : Int) - 1)) ∧ txt = (if (bl && inB k 0 ((l.length : Int) - 1)) = true then readT s.rows (l.getD k.toNat hole) else ⟨#[]⟩)
theorem tgg_one {s : St} {tr : Tr} {k : Int} {x x' : ByteArray} {b b' : Bool} (h : TGG s tr k x b) (h' : TGG s tr k x' b') : b = b' ∧ x = x' := by
  obtain ⟨l, bl, h1, rfl, rfl⟩ := h
  obtain ⟨l', bl', h1', rfl, rfl⟩ := h'
  obtain ⟨rfl, rfl⟩ := tlg_one h1 h1'
  exact ⟨rfl, rfl⟩
def TGP (w : World) (s : St) (tr : Tr) (k : Int) (e : Ending) (w' : World) : Prop := ∃ (x : ByteArray) (b : Bool), e = .returned (.tuple #[.string x, .bool b]) ∧ TGG s tr k x b ∧ Below w.heap.size w w'
theorem tlg_read {s : St} {tr : Tr} {l : List Pt} (h : TLG s tr l true) {i : Nat} {p : Pt} (hp : l[i]? = some p) : storeB s = true ∧ ptrB p = true ∧ readB s.rows p = true := by
  rcases h with ⟨hs, h⟩ | ⟨_, _, h⟩
  · rcases h with ⟨_, out, ho, rfl⟩ | ⟨h, _⟩
    · rw [List.getElem?_take] at hp
      split at hp
      · have hh := ho.1
        simp only [headT, Bool.and_eq_true, decide_eq_true_eq] at hh
        have hpb := (lvOk_B (store_txg hs) (fun q hq => by simp at hq; rw [hq]; exact ⟨hh.2.2.1, hh.2.2.2⟩) ho.2.1 p (List.mem_of_getElem? hp)).1
        have hlf := ho.2.2 i p hp
        refine ⟨hs, hpb, ?_⟩
        simp only [LeafOk, Bool.or_eq_true, Bool.and_eq_true] at hlf
        rcases hlf with h | ⟨h, _⟩
        · simp [readB, h]
        · exact h
      · cases hp
    · cases h
  · cases h
set_option maxHeartbeats 4000000 in
theorem treeGet_any (w : World) (x : SA) (s : St) (tr : Tr) (k : Int) (h : SRd w x s) (mG : x.nG ≤ 1048576) (mD : x.nD ≤ 1048576) (hz : ∀ r ∈ s.rows, r.size ≤ 9223372036854775807) (hM : MaxAt w) (hT : TenAt w) (hE : ErrAt w) :
    Calls Tryz.prog 30 #[x.v s.txg s.keep s.same, tr.v, .int .i64 k] w (TGP w s tr k) := by
  have HX := Lib.hid h
  have HTL := Lib.hid (fun W (hB : Below w.heap.size w W) => treeLeaves_any W x s tr (HX.out.below hB) mG mD hz (hM.below hB) (hT.below hB) (hE.below hB))
  have HRD := Lib.hid (fun W sb v1 v2 v3 v4 v5 v6 v7 p (hS : BoxAt W sb #[.slice x.R x.nR x.cR, v1, v2, v3, v4, v5, v6, v7] 38) (hB : Below w.heap.size w W) (hs : storeB s = true) hp => read_any W sb x.R x.nR x.cR v1 v2 v3 v4 v5 v6 v7 s.rows p hS (HX.out.rows.below hB) HX.out.lR (by have := store_rows hs; have := HX.out.lR; omega) hz hp)
  have HG := Lib.hid (fun l bl (h1 : TLG s tr l bl) => (show TGG s tr k (if (bl && inB k 0 ((l.length : Int) - 1)) = true then readT s.rows (l.getD k.toNat hole) else ⟨#[]⟩) (bl && inB k 0 ((l.length : Int) - 1)) from ⟨l, bl, h1, rfl, rfl⟩))
  have HLN := Lib.hid (fun l b => @tlg_len s tr l b)
  have HLR := Lib.hid (fun l (h : TLG s tr l true) i p (hp : l[i]? = some p) => tlg_read h hp)
  clear h HX hM hT hE hz
  unfold TGP
  unfold TLP at HTL
  generalize TGG s tr k = P at *
  generalize TLG s tr = P1 at *
  obtain ⟨⟨ra, rb, rs, ru, rl⟩, dep, many⟩ := tr
  obtain ⟨R, nR, cR, A, nA, cA, B, nB, cB, G, nG, cG, D, nD, cD⟩ := x
  obtain ⟨rows, refs, last, txg, gone, keep, dead, same⟩ := s
  unfold SA.v Tr.v at *
  dsimp only at *
  have BS := Lib.hid ((box_new w #[.slice R nR cR, .slice A nA cA, .slice B nB cB, .int .i64 txg, .slice G nG cG, .int .i64 keep, .slice D nD cD, .bool same] 38).alloc (.cells #[.int .i64 ra, .int .i64 rb, .int .i64 rs, .int .i64 ru, .int .i64 rl, .int .i64 dep, .int .i64 many] 42))
  have BT := box_new (w.alloc (.cells #[.slice R nR cR, .slice A nA cA, .slice B nB cB, .int .i64 txg, .slice G nG cG, .int .i64 keep, .slice D nD cD, .bool same] 38)) #[.int .i64 ra, .int .i64 rb, .int .i64 rs, .int .i64 ru, .int .i64 rl, .int .i64 dep, .int .i64 many] 42
  rw [World.size_alloc] at BT
  replace BT := Lib.hid BT
  have HBa := Lib.hid (below_alloc (below_alloc (Below.refl w.heap.size w) (.cells #[.slice R nR cR, .slice A nA cA, .slice B nB cB, .int .i64 txg, .slice G nG cG, .int .i64 keep, .slice D nD cD, .bool same] 38)) (.cells #[.int .i64 ra, .int .i64 rb, .int .i64 rs, .int .i64 ru, .int .i64 rl, .int .i64 dep, .int .i64 many] 42))
  go_enter Tryz.func30, Tryz.ntmps30
  go_wp2_with fail
  refine Calls.mono (HTL.out _ HBa.out) ?_
  rintro e w2 ⟨v, l, bl, rfl, hG, hO, hB⟩
  obtain ⟨A9, c9, rfl, q1, q2, _, hrd⟩ := hO.form
  have HR := Lib.hid hrd
  have HB2 := Lib.hid (below_below HBa.out hB)
  have BS2 := Lib.hid (BS.out.below hB)
  have hn := HLN.out l bl hG
  have HP := Lib.hid (HG.out l bl hG)
  have HGG := Lib.hid hG
  have k1 : IntKind.i64.wrap ((l.length : Int) - 1) = (l.length : Int) - 1 := IntWalk.i64_in _ (by omega)
  clear hB hG hO hrd BS BT HBa HTL HG HLN
  cases bl
  · rw [Bool.false_and, if_neg (by decide)] at HP
    clear HGG HR HLR HRD k1 q1
    generalize l.length = n9 at *
    go_wp2_with fail
    go_ret2
    exact ⟨_, false, rfl, HP.out, HB2.out⟩
  cases hin : inB k 0 ((l.length : Int) - 1)
  · rw [hin, Bool.and_false, if_neg (by decide)] at HP
    clear HGG HR HLR HRD q1
    generalize l.length = n9 at *
    go_wp2_with (go_at_call 56; refine (within_any _ _ _ _).mono ?_; rintro e w' ⟨rfl, rfl⟩)
    go_ret2
    exact ⟨_, false, rfl, HP.out, HB2.out⟩
  · have hk := inB_true hin
    obtain ⟨kk, rfl⟩ : ∃ kk : Nat, k = (kk : Int) := ⟨k.toNat, by omega⟩
    have hkl : kk < l.length := by omega
    obtain ⟨b9, o9, p, rfl, hb9, he, c0, c1, c2, c3, c4⟩ := HR.out.ptr hkl
    obtain ⟨hs, hpb, hrb⟩ := HLR.out l HGG.out kk p he
    have HRP := Lib.hid (fun W sb v1 v2 v3 v4 v5 v6 v7 hS hB => HRD.out W sb v1 v2 v3 v4 v5 v6 v7 p hS hB hs hpb)
    rw [hrb] at HRP
    rw [hin, Bool.true_and, if_pos rfl, Int.toNat_natCast, List.getD_eq_getElem?_getD, he] at HP
    change Hid (P (readT rows p) true) at HP
    have HPV := Lib.hid (show p.v = .agg #[.int .i64 p.at_, .int .i64 p.birth, .int .i64 p.size, .int .i64 p.sum, .int .i64 p.level] from rfl)
    rw [HPV.out] at HRP
    clear HGG HR HLR HRD he hs hpb hrb hk HPV
    generalize readT rows p = RT at *
    generalize l.length = n9 at *
    go_wp2_with (go_at_call 56; refine (within_any _ _ _ _).mono ?_; rintro e w' ⟨rfl, rfl⟩)
    refine Calls.mono (HRP.out _ _ _ _ _ _ _ _ _ BS2.out HB2.out) ?_
    rintro e w3 ⟨rfl, hB⟩
    have HB3 := Lib.hid (below_below HB2.out hB)
    clear hB
    go_wp2_with fail
    go_ret2
    exact ⟨_, true, rfl, HP.out, HB3.out⟩
set_option maxHeartbeats 4000000 in
theorem specTreeGet_any (w : World) (x : SA) (s : St) (tr : Tr) (k : Int) (h : SRd w x s) (mG : x.nG ≤ 1048576) (mD : x.nD ≤ 1048576) (hz : ∀ r ∈ s.rows, r.size ≤ 9223372036854775807) :
    Calls Tryz.prog 29 #[x.v s.txg s.keep s.same, tr.v, .int .i64 k] w (TGP w s tr k) := by
  have HX := Lib.hid h
  have HOK := Lib.hid (fun W (hB : Below w.heap.size w W) => specTreeOk_any W x s tr (HX.out.below hB) mG mD hz)
  have hnR := h.lR
  unfold OkP at HOK
  by_cases hok : storeB s = true ∧ ∃ out, TrOk s.rows s.txg tr out
  · obtain ⟨hs, out, ho⟩ := hok
    obtain ⟨m0, m1, m16, hp, hdn, hd2, ho16⟩ := tr_many ho
    have htg : TLG s tr (out.take tr.many.toNat) true := .inl ⟨hs, .inl ⟨rfl, out, ho, rfl⟩⟩
    have hln : ((out.take tr.many.toNat).length : Int) = tr.many := by rw [List.length_take]; omega
    have HP := Lib.hid (show TGG s tr k (if (true && inB k 0 (tr.many - 1)) = true then readT s.rows ((out.take tr.many.toNat).getD k.toNat hole) else ⟨#[]⟩) (true && inB k 0 (tr.many - 1)) from ⟨_, true, htg, by rw [hln], by rw [hln]⟩)
    have HGET := Lib.hid (fun (kk : Nat) p (hk : out[kk]? = some p) (hpp : ptrB p = true) W (hB : Below w.heap.size w W) => l8Get_any W x.R x.nR x.cR x.A x.B x.G x.D x.nA x.cA x.nB x.cB x.nG x.cG x.nD x.cD s.txg s.keep s.same s.rows tr.root tr.depth.toNat tr.many out (HX.out.rows.below hB) HX.out.lR (by have := store_rows hs; omega) hz hp (store_txg hs) hd2 ho.2.1 ho16 kk p hk hpp)
    have HLR := Lib.hid (fun i p (hp : (out.take tr.many.toNat)[i]? = some p) => (tlg_read htg hp).2.1)
    replace HOK := Lib.hid (fun W hB => (HOK.out W hB).mono (fun e w' ⟨b, he, hb, hB'⟩ => (show e = Ending.returned (.bool true) ∧ Below W.heap.size W w' from ⟨by rw [he, hb.2 ⟨hs, out, ho⟩], hB'⟩)))
    have HM1 := Lib.hid m1
    clear h HX hnR ho hp hs htg hln m1
    unfold TGP
    generalize TGG s tr k = P at *
    obtain ⟨⟨ra, rb, rs, ru, rl⟩, dep, many⟩ := tr
    dsimp only at *
    obtain ⟨d, rfl⟩ : ∃ d : Nat, dep = (d : Int) := ⟨dep.toNat, hdn⟩
    obtain ⟨mn, rfl⟩ : ∃ mn : Nat, many = (mn : Int) := ⟨many.toNat, by omega⟩
    rw [Int.toNat_natCast] at HGET
    simp only [Int.toNat_natCast] at HP HLR
    obtain ⟨R, nR, cR, A, nA, cA, B, nB, cB, G, nG, cG, D, nD, cD⟩ := x
    obtain ⟨rows, refs, last, txg, gone, keep, dead, same⟩ := s
    unfold SA.v Tr.v at *
    dsimp only at *
    have BS := Lib.hid ((box_new w #[.slice R nR cR, .slice A nA cA, .slice B nB cB, .int .i64 txg, .slice G nG cG, .int .i64 keep, .slice D nD cD, .bool same] 38).alloc (.cells #[.int .i64 ra, .int .i64 rb, .int .i64 rs, .int .i64 ru, .int .i64 rl, .int .i64 (d : Int), .int .i64 (mn : Int)] 42))
    have BT := box_new (w.alloc (.cells #[.slice R nR cR, .slice A nA cA, .slice B nB cB, .int .i64 txg, .slice G nG cG, .int .i64 keep, .slice D nD cD, .bool same] 38)) #[.int .i64 ra, .int .i64 rb, .int .i64 rs, .int .i64 ru, .int .i64 rl, .int .i64 (d : Int), .int .i64 (mn : Int)] 42
    rw [World.size_alloc] at BT
    replace BT := Lib.hid BT
    have HBa := Lib.hid (below_alloc (below_alloc (Below.refl w.heap.size w) (.cells #[.slice R nR cR, .slice A nA cA, .slice B nB cB, .int .i64 txg, .slice G nG cG, .int .i64 keep, .slice D nD cD, .bool same] 38)) (.cells #[.int .i64 ra, .int .i64 rb, .int .i64 rs, .int .i64 ru, .int .i64 rl, .int .i64 (d : Int), .int .i64 (mn : Int)] 42))
    have k1 : IntKind.i64.wrap ((mn : Int) - 1) = (mn : Int) - 1 := IntWalk.i64_in _ (by omega)
    clear hdn hd2
    go_enter Tryz.func29, Tryz.ntmps29
    go_wp2_with fail
    refine Calls.mono (HOK.out _ HBa.out) ?_
    rintro e w2 ⟨rfl, hB⟩
    have HB2 := Lib.hid (below_below HBa.out hB)
    have BS2 := Lib.hid (BS.out.below hB)
    have BT2 := Lib.hid (BT.out.below hB)
    have bt2 := BT2.out.cell
    have hl2 := BT2.out.lt
    have bs2 := BS2.out.cell
    have hs2 := BS2.out.lt
    clear hB BS BT HBa HOK
    cases hin : inB k 0 ((mn : Int) - 1)
    · rw [hin, Bool.and_false, if_neg (by decide)] at HP
      clear HGET HLR
      go_wp2_with (go_at_call 54; refine (l6In_any _ _ _ _).mono ?_; rintro e w' ⟨rfl, rfl⟩)
      go_ret2
      exact ⟨_, false, rfl, HP.out, HB2.out⟩
    · have hk := inB_true hin
      obtain ⟨kk, rfl⟩ : ∃ kk : Nat, k = (kk : Int) := ⟨k.toNat, by omega⟩
      have hkl : kk < out.length := by have := HM1.out; omega
      have he : out[kk]? = some out[kk] := List.getElem?_eq_getElem hkl
      have het : (out.take mn)[kk]? = some out[kk] := by rw [List.getElem?_take, if_pos (by omega)]; exact he
      have HRP := Lib.hid (HGET.out kk _ he (HLR.out kk _ het))
      rw [hin, Bool.true_and, if_pos rfl, Int.toNat_natCast, List.getD_eq_getElem?_getD, het] at HP
      change Hid (P (readT rows out[kk]) true) at HP
      clear HGET HLR he het hk
      generalize readT rows out[kk] = RT at *
      clear hkl
      go_wp2_with (go_at_call 54; refine (l6In_any _ _ _ _).mono ?_; rintro e w' ⟨rfl, rfl⟩)
      refine Calls.mono (HRP.out _ HB2.out) ?_
      rintro e w3 ⟨rfl, hB⟩
      have HB3 := Lib.hid (below_below HB2.out hB)
      clear hB
      go_wp2_with fail
      go_ret2
      exact ⟨_, true, rfl, HP.out, HB3.out⟩
  · have HP := Lib.hid (show TGG s tr k ⟨#[]⟩ false from ⟨[], false, (by
      cases hs : storeB s
      · exact .inr ⟨hs, rfl, rfl⟩
      · exact .inl ⟨hs, .inr ⟨rfl, rfl, fun out ho => hok ⟨hs, out, ho⟩⟩⟩), rfl, rfl⟩)
    replace HOK := Lib.hid (fun W hB => (HOK.out W hB).mono (fun e w' ⟨b, he, hb, hB'⟩ => (show e = Ending.returned (.bool false) ∧ Below W.heap.size W w' from ⟨by
      have hbf : b = false := by
        cases b
        · rfl
        · exact absurd (hb.1 rfl) hok
      rw [he, hbf], hB'⟩)))
    clear h HX hnR hok
    unfold TGP
    generalize TGG s tr k = P at *
    obtain ⟨⟨ra, rb, rs, ru, rl⟩, dep, many⟩ := tr
    obtain ⟨R, nR, cR, A, nA, cA, B, nB, cB, G, nG, cG, D, nD, cD⟩ := x
    obtain ⟨rows, refs, last, txg, gone, keep, dead, same⟩ := s
    unfold SA.v Tr.v at *
    dsimp only at *
    have BS := Lib.hid ((box_new w #[.slice R nR cR, .slice A nA cA, .slice B nB cB, .int .i64 txg, .slice G nG cG, .int .i64 keep, .slice D nD cD, .bool same] 38).alloc (.cells #[.int .i64 ra, .int .i64 rb, .int .i64 rs, .int .i64 ru, .int .i64 rl, .int .i64 dep, .int .i64 many] 42))
    have BT := box_new (w.alloc (.cells #[.slice R nR cR, .slice A nA cA, .slice B nB cB, .int .i64 txg, .slice G nG cG, .int .i64 keep, .slice D nD cD, .bool same] 38)) #[.int .i64 ra, .int .i64 rb, .int .i64 rs, .int .i64 ru, .int .i64 rl, .int .i64 dep, .int .i64 many] 42
    rw [World.size_alloc] at BT
    replace BT := Lib.hid BT
    have HBa := Lib.hid (below_alloc (below_alloc (Below.refl w.heap.size w) (.cells #[.slice R nR cR, .slice A nA cA, .slice B nB cB, .int .i64 txg, .slice G nG cG, .int .i64 keep, .slice D nD cD, .bool same] 38)) (.cells #[.int .i64 ra, .int .i64 rb, .int .i64 rs, .int .i64 ru, .int .i64 rl, .int .i64 dep, .int .i64 many] 42))
    go_enter Tryz.func29, Tryz.ntmps29
    go_wp2_with fail
    refine Calls.mono (HOK.out _ HBa.out) ?_
    rintro e w2 ⟨rfl, hB⟩
    have HB2 := Lib.hid (below_below HBa.out hB)
    clear hB
    go_wp2_with fail
    go_ret2
    exact ⟨_, false, rfl, HP.out, HB2.out⟩

end Go.Proofs.YtafadedacbjioaaGreatDoor

/- BlobGet and BlobSame: both texts' walks. -/
namespace Go.Proofs.YtafadedacbjioaaGreatDoor
open Go.RowKit Go.Sort
set_option maxRecDepth 100000
set_option linter.unusedVariables false
set_option linter.unusedSimpArgs false

theorem rd_farB {α : Type} {enc : α → Nat → Value} {sz b off : Nat} {W W' : World} {row : Option Nat} {xs : List α} (h : RdT enc sz W (some ⟨b, off, none⟩) xs) (hg : W.grownBy W' row) (hne : some b ≠ row) : RdT enc sz W' (some ⟨b, off, none⟩) xs :=
  h.keep hg.size (fun _ a ha hl => by cases ha; exact hg.block _ hl hne)
theorem box_lowB {W W' : World} {b B : Nat} {cs : Array Value} {T : TypeId} (h : BoxAt W b cs T) (hB : Below B W W') (hb : b < B) : BoxAt W' b cs T := (hB.block b hb).trans h
theorem own_base {α : Type} {enc : α → Nat → Value} {sz T base : Nat} {w : World} {v : Value} {xs : List α} (h : Own enc sz T base w v xs) : ∀ k, v.ownBlock = some k → base ≤ k := by
  rcases h.2 with ⟨rfl, _⟩ | ⟨g, cap, cur, rfl, hg, _⟩
  · intro k hk; simp [Value.ownBlock] at hk
  · intro k hk; simp [Value.ownBlock] at hk; omega
theorem own_lowerS {base base' : Nat} {w : World} {v : Value} {xs : List ByteArray} (h : Own encS 1 9 base w v xs) (hb : base' ≤ base) : Own encS 1 9 base' w v xs := by
  refine ⟨h.1, ?_⟩
  rcases h.2 with h | ⟨g, cap, cur, rfl, hg, r⟩
  · exact .inl h
  · exact .inr ⟨g, cap, cur, rfl, Nat.le_trans hb hg, r⟩
def okAt (n k : Nat) (x : ByteArray) : Prop := ¬ (k + 1 < n ∧ x.size ≠ 128) ∧ x.size ≠ 0
def AllOk (xs : List ByteArray) : Prop := ∀ k x, xs[k]? = some x → okAt xs.length k x
def catL (xs : List ByteArray) : List UInt8 := (xs.map (·.data.toList)).flatten
theorem catL_step {xs : List ByteArray} {k : Nat} {x : ByteArray} (h : xs[k]? = some x) : catL (xs.take (k + 1)) = catL (xs.take k) ++ x.data.toList := by
  rw [List.take_add_one, h]
  simp [catL]
theorem catL_len : ∀ {xs : List ByteArray}, (∀ x ∈ xs, x.size ≤ 128) → (catL xs).length ≤ 128 * xs.length
  | [], _ => by simp [catL]
  | x :: r, h => by
    have h1 := catL_len (xs := r) (fun y hy => h y (List.mem_cons_of_mem _ hy))
    have h2 := h x (List.mem_cons_self ..)
    have h3 : x.data.toList.length = x.size := Array.length_toList
    simp only [catL, List.map_cons, List.flatten_cons, List.length_append, List.length_cons] at h1 ⊢
    omega
def BGG (s : St) (tr : Tr) (txt : ByteArray) (b : Bool) : Prop := ∃ l bl, TLG s tr l bl ∧ ((bl = true ∧ AllOk (l.map (readT s.rows)) ∧ b = true ∧ txt = ofL (catL (l.map (readT s.rows)))) ∨ ((bl = false ∨ ¬ AllOk (l.map (readT s.rows))) ∧ b = false ∧ txt = ⟨#[]⟩))
theorem bgg_one {s : St} {tr : Tr} {x x' : ByteArray} {b b' : Bool} (h : BGG s tr x b) (h' : BGG s tr x' b') : b = b' ∧ x = x' := by
  obtain ⟨l, bl, h1, h2⟩ := h
  obtain ⟨l', bl', h1', h2'⟩ := h'
  obtain ⟨rfl, rfl⟩ := tlg_one h1 h1'
  rcases h2 with ⟨e1, e2, rfl, rfl⟩ | ⟨e1, rfl, rfl⟩
  · rcases h2' with ⟨_, _, rfl, rfl⟩ | ⟨f1, _, _⟩
    · exact ⟨rfl, rfl⟩
    · rcases f1 with f1 | f1
      · rw [e1] at f1; cases f1
      · exact absurd e2 f1
  · rcases h2' with ⟨f1, f2, _, _⟩ | ⟨_, rfl, rfl⟩
    · rcases e1 with e1 | e1
      · rw [f1] at e1; cases e1
      · exact absurd f2 e1
    · exact ⟨rfl, rfl⟩
def BGP (w : World) (s : St) (tr : Tr) (e : Ending) (w' : World) : Prop := ∃ (x : ByteArray) (b : Bool), e = .returned (.tuple #[.string x, .bool b]) ∧ BGG s tr x b ∧ Below w.heap.size w w'
theorem empty_iff (x : ByteArray) : x.toList.isEmpty = decide (x.size = 0) := by
  have h3 : x.data.toList.length = x.size := Array.length_toList
  rw [Lib.toList_data]
  cases h : x.data.toList with
  | nil =>
    rw [h] at h3
    have h4 : x.size = 0 := h3.symm
    rw [decide_eq_true h4]
    rfl
  | cons b r =>
    rw [h, List.length_cons] at h3
    rw [decide_eq_false (show ¬ x.size = 0 by omega)]
    rfl
set_option maxHeartbeats 8000000 in
theorem blobGet_any (w : World) (x : SA) (s : St) (tr : Tr) (h : SRd w x s) (mG : x.nG ≤ 1048576) (mD : x.nD ≤ 1048576) (hz : ∀ r ∈ s.rows, r.size ≤ 9223372036854775807) (hM : MaxAt w) (hT : TenAt w) (hE : ErrAt w) :
    Calls Tryz.prog 34 #[x.v s.txg s.keep s.same, tr.v] w (BGP w s tr) := by
  have HX := Lib.hid h
  have HTL := Lib.hid (fun W (hB : Below w.heap.size w W) => treeLeaves_any W x s tr (HX.out.below hB) mG mD hz (hM.below hB) (hT.below hB) (hE.below hB))
  have HRD := Lib.hid (fun W sb v1 v2 v3 v4 v5 v6 v7 p (hS : BoxAt W sb #[.slice x.R x.nR x.cR, v1, v2, v3, v4, v5, v6, v7] 38) (hB : Below w.heap.size w W) (hs : storeB s = true) hp => read_any W sb x.R x.nR x.cR v1 v2 v3 v4 v5 v6 v7 s.rows p hS (HX.out.rows.below hB) HX.out.lR (by have := store_rows hs; have := HX.out.lR; omega) hz hp)
  have HNO := Lib.hid (fun l bl (h1 : TLG s tr l bl) (h2 : bl = false ∨ ¬ AllOk (l.map (readT s.rows))) => (show BGG s tr ⟨#[]⟩ false from ⟨l, bl, h1, .inr ⟨h2, rfl, rfl⟩⟩))
  have HYE := Lib.hid (fun l (h1 : TLG s tr l true) (h2 : AllOk (l.map (readT s.rows))) => (show BGG s tr (ofL (catL (l.map (readT s.rows)))) true from ⟨l, true, h1, .inl ⟨rfl, h2, rfl, rfl⟩⟩))
  have HLN := Lib.hid (fun l b => @tlg_len s tr l b)
  have HLR := Lib.hid (fun l (h : TLG s tr l true) i p (hp : l[i]? = some p) => tlg_read h hp)
  clear h HX hM hT hE hz
  unfold BGP
  unfold TLP at HTL
  generalize BGG s tr = P at *
  generalize TLG s tr = P1 at *
  obtain ⟨⟨ra, rb, rs, ru, rl⟩, dep, many⟩ := tr
  obtain ⟨R, nR, cR, A, nA, cA, B, nB, cB, G, nG, cG, D, nD, cD⟩ := x
  obtain ⟨rows, refs, last, txg, gone, keep, dead, same⟩ := s
  unfold SA.v Tr.v at *
  dsimp only at *
  have BS := Lib.hid ((box_new w #[.slice R nR cR, .slice A nA cA, .slice B nB cB, .int .i64 txg, .slice G nG cG, .int .i64 keep, .slice D nD cD, .bool same] 38).alloc (.cells #[.int .i64 ra, .int .i64 rb, .int .i64 rs, .int .i64 ru, .int .i64 rl, .int .i64 dep, .int .i64 many] 42))
  have BT := box_new (w.alloc (.cells #[.slice R nR cR, .slice A nA cA, .slice B nB cB, .int .i64 txg, .slice G nG cG, .int .i64 keep, .slice D nD cD, .bool same] 38)) #[.int .i64 ra, .int .i64 rb, .int .i64 rs, .int .i64 ru, .int .i64 rl, .int .i64 dep, .int .i64 many] 42
  rw [World.size_alloc] at BT
  replace BT := Lib.hid BT
  have HBa := Lib.hid (below_alloc (below_alloc (Below.refl w.heap.size w) (.cells #[.slice R nR cR, .slice A nA cA, .slice B nB cB, .int .i64 txg, .slice G nG cG, .int .i64 keep, .slice D nD cD, .bool same] 38)) (.cells #[.int .i64 ra, .int .i64 rb, .int .i64 rs, .int .i64 ru, .int .i64 rl, .int .i64 dep, .int .i64 many] 42))
  go_enter Tryz.func34, Tryz.ntmps34
  go_wp2_with fail
  refine Calls.mono (HTL.out _ HBa.out) ?_
  rintro e w2 ⟨v, l, bl, rfl, hG, hO, hB⟩
  obtain ⟨A9, c9, rfl, q1, q2, _, hrd⟩ := hO.form
  have HR := Lib.hid hrd
  have HB2 := Lib.hid (below_below HBa.out hB)
  have BS2 := Lib.hid (BS.out.below hB)
  have hn := HLN.out l bl hG
  have HGG := Lib.hid hG
  clear hB hG hO hrd BS BT HBa HTL HLN
  cases bl
  · have HP := Lib.hid (HNO.out l false HGG.out (.inl rfl))
    clear HGG HR HLR HRD q1 HNO HYE
    generalize l.length = n9 at *
    go_wp2_with fail
    go_ret2
    exact ⟨_, false, rfl, HP.out, HB2.out⟩
  have HP1 := Lib.hid (HNO.out l true HGG.out)
  have HP2 := Lib.hid (HYE.out l HGG.out)
  have HXL := Lib.hid (show (l.map (readT rows)).length = l.length by simp)
  have HSZ := Lib.hid (show ∀ y ∈ l.map (readT rows), y.size ≤ 128 from fun y hy => by
    obtain ⟨p, hp, rfl⟩ := List.mem_map.1 hy
    obtain ⟨i, hi⟩ := List.getElem?_of_mem hp
    exact readT_size (HLR.out l HGG.out i p hi).2.1)
  replace HLR := Lib.hid (HLR.out l HGG.out)
  have HMP := Lib.hid (fun i p (hp : l[i]? = some p) => (show (l.map (readT rows))[i]? = some (readT rows p) by rw [List.getElem?_map, hp]; rfl))
  clear HNO HYE HGG
  generalize l.map (readT rows) = xs at *
  have k1 : IntKind.i64.wrap ((l.length : Int) - 1) = (l.length : Int) - 1 := IntWalk.i64_in _ (by omega)
  go_wp2_with fail
  --S1
  go_loopw [23] (fun y wr => ∃ k : Nat, k ≤ l.length ∧ y = .int .i64 k ∧ Hid (∀ i z, i < k → xs[i]? = some z → okAt xs.length i z) ∧ Hid (BuildAt w2.heap.size w2.heap.size (catL (xs.take k)) wr) ∧ Hid (Below w2.heap.size w2 wr)) (fun y _ => l.length - (intOf y).toNat)
  case atStart => exact ⟨0, Nat.zero_le _, rfl, Lib.hid (fun i z hi => by omega), Lib.hid (build_new w2), Lib.hid (below_alloc (Below.refl _ _) _)⟩
  case round =>
    obtain ⟨k, hk, rfl, HQ, HBU, HBr⟩ := hrel
    have HBw := Lib.hid (below_below HB2.out HBr.out)
    by_cases hlt : k < l.length
    · obtain ⟨b9, o9, p, rfl, hb9, he, p0, p1, p2, p3, p4⟩ := (HR.out.below HBr.out).ptr hlt
      obtain ⟨hs, hpb, hrb⟩ := HLR.out k p he
      have hxk := HMP.out k p he
      have HXK := Lib.hid hxk
      have HSTEP := Lib.hid (catL_step hxk)
      have hsz := HSZ.out _ (List.mem_of_getElem? hxk)
      have HRP := Lib.hid (fun W sb v1 v2 v3 v4 v5 v6 v7 hS hB => HRD.out W sb v1 v2 v3 v4 v5 v6 v7 p hS hB hs hpb)
      rw [hrb] at HRP
      have HBU2 := Lib.hid (HBU.out.below (below_alloc (Below.refl wr.heap.size wr) (.cells #[.int .i64 p.at_, .int .i64 p.birth, .int .i64 p.size, .int .i64 p.sum, .int .i64 p.level] 40)))
      have HBr2 := Lib.hid (below_alloc HBr.out (.cells #[.int .i64 p.at_, .int .i64 p.birth, .int .i64 p.size, .int .i64 p.sum, .int .i64 p.level] 40))
      have HBw2 := Lib.hid (below_below HB2.out HBr2.out)
      have BSr := Lib.hid (BS2.out.below HBr2.out)
      have HPV := Lib.hid (show p.v = .agg #[.int .i64 p.at_, .int .i64 p.birth, .int .i64 p.size, .int .i64 p.sum, .int .i64 p.level] from rfl)
      rw [HPV.out] at HRP
      have HCL := Lib.hid (show (catL (xs.take k)).length ≤ 128 * 16 from by
        have h1 := catL_len (xs := xs.take k) (fun y hy => HSZ.out y (List.mem_of_mem_take hy))
        have h2 : (xs.take k).length ≤ 16 := by rw [List.length_take, HXL.out]; omega
        omega)
      have k2 : IntKind.i64.wrap ((k : Int) + 1) = (k : Int) + 1 := IntWalk.i64_in _ (by omega)
      have hpt : xs.length = l.length := HXL.out
      have HBAD := Lib.hid (fun (hb : ¬ okAt xs.length k (readT rows p)) => HP1.out (.inr (fun ha => hb (ha k _ hxk))))
      have HNX := Lib.hid (fun (hg : okAt xs.length k (readT rows p)) => (show ∀ i z, i < k + 1 → xs[i]? = some z → okAt xs.length i z from fun i z hi hz => by
        rcases Nat.lt_or_ge i k with h' | h'
        · exact HQ.out i z h' hz
        · obtain rfl : i = k := by omega
          rw [hxk] at hz
          cases hz
          exact hg))
      have HPT := Lib.hid hpt
      clear hs hpb hrb he hxk HPV HMP HLR HRD HP1 HP2 HSZ HBU hpt
      generalize readT rows p = RT at *
      generalize l.length = n9 at *
      go_wp2_with fail
      refine Calls.mono (HRP.out _ _ _ _ _ _ _ _ _ BSr.out HBw2.out) ?_
      rintro e w5 ⟨rfl, hB⟩
      have HB5r := Lib.hid (below_below HBr2.out hB)
      have HB5 := Lib.hid (below_below HBw2.out hB)
      have HBU5 := Lib.hid (HBU2.out.below hB)
      clear hB HBU2 HBr2 HBw2 BSr p0 p1 p2 p3 p4 HRP
      by_cases hA : k + 1 < n9 ∧ RT.size ≠ 128
      · have HE := Lib.hid (HBAD.out (fun hg => hg.1 (by rw [HPT.out]; exact hA)))
        have n1 : decide ((k : Int) < (n9 : Int) - 1) = true := decide_eq_true (by omega)
        have n2 : ((RT.size : Int) != 128) = true := by simp; omega
        clear hA HBAD HNX
        go_wp2_with fail
        go_ret2
        exact ⟨_, false, rfl, HE.out, HB5.out⟩
      by_cases h0 : RT.size = 0
      · have HE := Lib.hid (HBAD.out (fun hg => hg.2 h0))
        have n3 : RT.toList.isEmpty = true := by rw [empty_iff]; exact decide_eq_true h0
        by_cases hk1 : k + 1 < n9
        · have n1 : decide ((k : Int) < (n9 : Int) - 1) = true := decide_eq_true (by omega)
          have n2 : ((RT.size : Int) != 128) = false := by simp; omega
          exact absurd h0 (by omega)
        · have n1 : decide ((k : Int) < (n9 : Int) - 1) = false := decide_eq_false (by omega)
          clear hA h0 HBAD HNX hk1
          go_wp2_with fail
          go_ret2
          exact ⟨_, false, rfl, HE.out, HB5.out⟩
      · have hg : okAt xs.length k RT := ⟨by rw [HPT.out]; exact hA, h0⟩
        have HN2 := Lib.hid (HNX.out hg)
        have n3 : RT.toList.isEmpty = false := by rw [empty_iff]; exact decide_eq_false h0
        have HWS := Lib.hid (writeString_any RT HBU5.out (by have := HCL.out; omega))
        rw [← HSTEP.out] at HWS
        have hx1 := hlt
        by_cases hk1 : k + 1 < n9
        · have n1 : decide ((k : Int) < (n9 : Int) - 1) = true := decide_eq_true (by omega)
          have n2 : ((RT.size : Int) != 128) = false := by simp; omega
          clear hA h0 HBAD HNX hg hk1 HSTEP
          go_wp2_with fail
          refine Calls.mono HWS.out ?_
          rintro e w6 ⟨rfl, hBU, hB⟩
          have HBU6 := Lib.hid hBU
          have HB6 := Lib.hid (Below.trans HB5r.out hB)
          clear hBU hB HWS HBU5
          go_wp2_with fail
          exact ⟨⟨k + 1, by omega, by go_num, HN2, HBU6, HB6⟩, by simp [intOf]; omega⟩
        · have n1 : decide ((k : Int) < (n9 : Int) - 1) = false := decide_eq_false (by omega)
          clear hA h0 HBAD HNX hg hk1 HSTEP
          go_wp2_with fail
          refine Calls.mono HWS.out ?_
          rintro e w6 ⟨rfl, hBU, hB⟩
          have HBU6 := Lib.hid hBU
          have HB6 := Lib.hid (Below.trans HB5r.out hB)
          clear hBU hB HWS HBU5
          go_wp2_with fail
          exact ⟨⟨k + 1, by omega, by go_num, HN2, HBU6, HB6⟩, by simp [intOf]; omega⟩
    · obtain rfl : k = l.length := by omega
      have HE := Lib.hid (HP2.out (fun i z hz => HQ.out i z (by rw [← HXL.out]; exact (List.getElem?_eq_some_iff.1 hz).1) hz))
      have HST := buildString_any HBU.out
      rw [← HXL.out, List.take_length] at HST
      replace HST := Lib.hid HST
      clear HQ HBU HP1 HP2 HMP HLR HRD HR hlt HSZ
      generalize l.length = n9 at *
      go_wp2_with fail
      refine Calls.mono HST.out ?_
      rintro e w6 ⟨rfl, _, hB⟩
      have HB6 := Lib.hid (below_below HB2.out (Below.trans HBr.out hB))
      clear hB
      go_wp2_with fail
      go_ret2
      exact ⟨_, true, rfl, HE.out, HB6.out⟩

set_option maxHeartbeats 4000000 in
theorem l8Texts_any (w : World) (R : Option Addr) (nR cR : Nat) (A B G D : Option Addr) (nA cA nB cB nG cG nD cD : Nat) (t k : Int) (sm : Bool) (rows : List ByteArray) (root : Pt) (d : Nat) (m : Int) (out : List Pt) (h : RdT encS 1 w R rows) (hl : rows.length = nR) (h64 : nR = 64) (hz : ∀ x ∈ rows, x.size ≤ 9223372036854775807) (hp : ptrB root = true) (ht : 0 ≤ t) (hd : d ≤ 2) (hlv : LvOk rows t d [root] out) (h16 : out.length ≤ 16) (mn : Nat) (hmn : m = (mn : Int)) (hml : mn ≤ out.length) (hpa : ∀ p ∈ out, ptrB p = true) :
    Calls Tryz.prog 79 #[.agg #[.slice R nR cR, .slice A nA cA, .slice B nB cB, .int .i64 t, .slice G nG cG, .int .i64 k, .slice D nD cD, .bool sm], (Tr.mk root d m).v] w (SPost w ((out.take mn).map (readT rows))) := by
  have HW := Lib.hid (fun W (hW : Below w.heap.size w W) => l8Wide_any W R nR cR A B G D nA cA nB cB nG cG nD cD t k sm rows root d m out (h.below hW) hl h64 hz hp ht hd hlv h16)
  have HRD := Lib.hid (fun W (hW : Below w.heap.size w W) p hpp => l7Read_any W R nR cR A B G D nA cA nB cB nG cG nD cD t k sm rows p (h.below hW) hl h64 hz hpp)
  have HE := Lib.hid (fun kk (hk : kk < out.length) => wide_get hk)
  have HPA := Lib.hid hpa
  have hmn16 : mn ≤ 16 := by omega
  have H16 := Lib.hid (wide_len h16)
  have HML := Lib.hid hml
  subst hmn
  clear h hl h64 hz hp ht hd hlv h16 hpa hml
  generalize wideOf out = ws at *
  obtain ⟨ra, rb, rs, ru, rl⟩ := root
  unfold Tr.v at *
  dsimp only at *
  have BS := Lib.hid ((box_new w #[.slice R nR cR, .slice A nA cA, .slice B nB cB, .int .i64 t, .slice G nG cG, .int .i64 k, .slice D nD cD, .bool sm] 38).alloc (.cells #[.int .i64 ra, .int .i64 rb, .int .i64 rs, .int .i64 ru, .int .i64 rl, .int .i64 (d : Int), .int .i64 (mn : Int)] 42))
  have BT := box_new (w.alloc (.cells #[.slice R nR cR, .slice A nA cA, .slice B nB cB, .int .i64 t, .slice G nG cG, .int .i64 k, .slice D nD cD, .bool sm] 38)) #[.int .i64 ra, .int .i64 rb, .int .i64 rs, .int .i64 ru, .int .i64 rl, .int .i64 (d : Int), .int .i64 (mn : Int)] 42
  rw [World.size_alloc] at BT
  replace BT := Lib.hid BT
  have HBa := Lib.hid (below_alloc (below_alloc (Below.refl w.heap.size w) (.cells #[.slice R nR cR, .slice A nA cA, .slice B nB cB, .int .i64 t, .slice G nG cG, .int .i64 k, .slice D nD cD, .bool sm] 38)) (.cells #[.int .i64 ra, .int .i64 rb, .int .i64 rs, .int .i64 ru, .int .i64 rl, .int .i64 (d : Int), .int .i64 (mn : Int)] 42))
  go_enter Tryz.func79, Tryz.ntmps79
  go_wp2_with fail
  generalize hW1 : (w.alloc (.cells #[.slice R nR cR, .slice A nA cA, .slice B nB cB, .int .i64 t, .slice G nG cG, .int .i64 k, .slice D nD cD, .bool sm] 38)).alloc (.cells #[.int .i64 ra, .int .i64 rb, .int .i64 rs, .int .i64 ru, .int .i64 rl, .int .i64 (d : Int), .int .i64 (mn : Int)] 42) = W1 at *
  have BSe := Lib.hid (BS.out.alloc (.cells #[] 9))
  have BTe := Lib.hid (BT.out.alloc (.cells #[] 9))
  have HBe := Lib.hid (below_alloc HBa.out (.cells #[] 9))
  have H1e := Lib.hid (below_alloc (Below.refl W1.heap.size W1) (.cells #[] 9))
  have hs1 : W1.heap.size = w.heap.size + 2 := by rw [← hW1]; simp
  have HS1 := Lib.hid hs1
  have HOe := Lib.hid (show Own encS 1 9 W1.heap.size (W1.alloc (.cells #[] 9)) (.slice (some ⟨w.heap.size + 1 + 1, 0, none⟩) 0 0) ([] : List ByteArray) from by
    rw [show w.heap.size + 1 + 1 = W1.heap.size by omega]
    exact Own.empty (Nat.le_refl _))
  clear hs1 hW1
  refine Calls.mono (HW.out _ HBe.out) ?_
  rintro e w3 ⟨v, rfl, hO, hB⟩
  obtain ⟨A9, c9, rfl, q1, q2, hfr, hrd⟩ := hO.form
  have hr2 := hrd
  obtain ⟨b9, o9, rfl, hb9, _⟩ := hr2 (by rw [H16.out]; omega)
  have HNE := Lib.hid (show W1.heap.size < b9 from by have := (hfr _ rfl).1; simp at this; omega)
  have HR := Lib.hid hrd
  have HB3 := Lib.hid (below_below HBe.out hB)
  have H13 := Lib.hid (below_below H1e.out hB)
  have BS3 := Lib.hid (BSe.out.below hB)
  have BT3 := Lib.hid (BTe.out.below hB)
  have HO3 := Lib.hid (HOe.out.below hB)
  have HBL := Lib.hid hb9
  rw [H16.out] at q1
  rw [H16.out]
  clear hB hO hrd hr2 hfr HW BS BT HBa BSe BTe HBe HOe H1e hb9
  go_wp2_with fail
  --S1
  go_loopw [5, 7] (fun v y wr => ∃ kk : Nat, kk ≤ mn ∧ y = .int .i64 kk ∧ Hid (Own encS 1 9 W1.heap.size wr v ((out.take kk).map (readT rows))) ∧ Hid (Below W1.heap.size W1 wr) ∧ Hid (RdT encP 5 wr (some ⟨b9, o9, none⟩) ws) ∧ Hid (some b9 ≠ v.ownBlock) ∧ Hid (b9 < wr.heap.size) ∧ Hid (BoxAt wr w.heap.size #[.slice R nR cR, .slice A nA cA, .slice B nB cB, .int .i64 t, .slice G nG cG, .int .i64 k, .slice D nD cD, .bool sm] 38) ∧ Hid (BoxAt wr (w.heap.size + 1) #[.int .i64 ra, .int .i64 rb, .int .i64 rs, .int .i64 ru, .int .i64 rl, .int .i64 (d : Int), .int .i64 (mn : Int)] 42) ∧ Hid (Below w.heap.size w wr)) (fun v y _ => mn - (intOf y).toNat)
  case atStart => exact ⟨0, Nat.zero_le _, rfl, HO3, H13, HR, Lib.hid (by have := HNE.out; have := HS1.out; simp [Value.ownBlock]; omega), HBL, BS3, BT3, HB3⟩
  case round =>
    clear HO3 H13 HR HBL BS3 BT3 HB3
    obtain ⟨kk, hkk, rfl, HO, HB1, HR, HNB, HBL, BSr, BTr, HBw⟩ := hrel
    have bt6 : wr.cell? ⟨w.heap.size + 1, 6, none⟩ = some (.int .i64 (mn : Int)) := BTr.out.cell 6
    have htl := BTr.out.lt
    by_cases hlt : kk < mn
    · have hkl : kk < out.length := by have := HML.out; omega
      have hek : out[kk]? = some out[kk] := List.getElem?_eq_getElem hkl
      have HEK := Lib.hid (show ws[kk]? = some out[kk] by rw [HE.out kk hkl]; exact hek)
      have hpp := HPA.out _ (List.mem_of_getElem? hek)
      have HRDp := Lib.hid (fun W (hW : Below w.heap.size w W) => HRD.out W hW out[kk] hpp)
      have HZ := Lib.hid (show (out.take kk).map (readT rows) ++ [readT rows out[kk]] = (out.take (kk + 1)).map (readT rows) by rw [List.take_add_one, hek]; simp only [Option.toList_some, List.map_append, List.map_cons, List.map_nil])
      have hlk : ((out.take kk).map (readT rows)).length = kk := by simp; omega
      have K1 := Lib.hid (And.intro (show (((out.take kk).map (readT rows)).length + 1) * 16 ≤ 140737488355328 by omega) (show ((out.take kk).map (readT rows)).length + 1 ≤ maxLen by unfold maxLen; omega))
      have k2 : IntKind.i64.wrap ((kk : Int) + 1) = (kk : Int) + 1 := IntWalk.i64_in _ (by omega)
      have hk16i : (kk : Int) < 16 := by omega
      generalize out[kk] = p at *
      obtain ⟨pa, pb, ps, pu, pl⟩ := p
      unfold Pt.v at HRDp
      dsimp only at *
      generalize readT rows ⟨pa, pb, ps, pu, pl⟩ = RT at *
      generalize readB rows ⟨pa, pb, ps, pu, pl⟩ = RB at *
      obtain ⟨c0, c1, c2, c3, c4⟩ := row5_cells HR.out HEK.out
      obtain ⟨s0, s1, s2, s3, s4, s5, s6, s7⟩ := st8_cells BSr.out
      have hbl := BSr.out.lt
      have hb9r := HBL.out
      clear hlk hek hpp HE
      go_wp2_with fail
      --S2
      go_region_held3 (fun w' => (w'.cell? ⟨w.heap.size, 0, none⟩ = some (.slice R nR cR) ∧ w'.cell? ⟨w.heap.size, 1, none⟩ = some (.slice A nA cA) ∧ w'.cell? ⟨w.heap.size, 2, none⟩ = some (.slice B nB cB) ∧ w'.cell? ⟨w.heap.size, 3, none⟩ = some (.int .i64 t) ∧ w'.cell? ⟨w.heap.size, 4, none⟩ = some (.slice G nG cG) ∧ w'.cell? ⟨w.heap.size, 5, none⟩ = some (.int .i64 k) ∧ w'.cell? ⟨w.heap.size, 6, none⟩ = some (.slice D nD cD) ∧ w'.cell? ⟨w.heap.size, 7, none⟩ = some (.bool sm)) ∧ (w'.cell? ⟨b9, o9 + kk * 5, none⟩ = some (.int .i64 pa) ∧ w'.cell? ⟨b9, o9 + kk * 5 + 1, none⟩ = some (.int .i64 pb) ∧ w'.cell? ⟨b9, o9 + kk * 5 + 2, none⟩ = some (.int .i64 ps) ∧ w'.cell? ⟨b9, o9 + kk * 5 + 3, none⟩ = some (.int .i64 pu) ∧ w'.cell? ⟨b9, o9 + kk * 5 + 4, none⟩ = some (.int .i64 pl))) (first | exact ⟨st8_cells (BSr.out.below (by (repeat (first | assumption | exact Below.refl _ _ | refine below_alloc ?_ _ | refine Below.drew ?_ | refine below_drewN ?_ _ | refine below_below ?_ (by assumption))))), row5_cells (HR.out.below (by (repeat (first | assumption | exact Below.refl _ _ | refine below_alloc ?_ _ | refine Below.drew ?_ | refine below_drewN ?_ _ | refine below_below ?_ (by assumption))))) HEK.out⟩)
        (first
          | (go_at_call 76; refine Calls.mono (HRDp.out _ (by refine below_below HBw.out ?_; (repeat (first | assumption | exact Below.refl _ _ | refine below_alloc ?_ _ | refine Below.drew ?_ | refine below_drewN ?_ _ | refine below_below ?_ (by assumption))))) ?_; rintro e w5 ⟨rfl, hB5⟩))
      have H5 := Lib.hid (show Below wr.heap.size wr w5 from by (repeat (first | assumption | exact Below.refl _ _ | refine below_alloc ?_ _ | refine Below.drew ?_ | refine below_drewN ?_ _ | refine below_below ?_ (by assumption))))
      have HO5 := Lib.hid (HO.out.below H5.out)
      have HB15 := Lib.hid (below_below HB1.out H5.out)
      have HR5 := Lib.hid ((HR.out.below H5.out).below (below_alloc (Below.refl w5.heap.size w5) (.cells #[.string RT] 9)))
      have HL5 := Lib.hid (Nat.lt_of_lt_of_le HBL.out H5.out.size)
      have BS5 := Lib.hid ((BSr.out.below H5.out).alloc (.cells #[.string RT] 9))
      have BT5 := Lib.hid ((BTr.out.below H5.out).alloc (.cells #[.string RT] 9))
      have HBw5 := Lib.hid (below_alloc (below_below HBw.out H5.out) (.cells #[.string RT] 9))
      have HSW := Lib.hid (show w.heap.size + 1 < W1.heap.size by have := HS1.out; omega)
      clear c0 c1 c2 c3 c4 s0 s1 s2 s3 s4 s5 s6 s7 hB5 hbl hb9r bt6 htl HRDp
      go_wp2_with (at_builtin; refine wpList_app (ys := ([RT] : List ByteArray)) elS rfl _ _ rfl (by rfl) (own_allocS HO5.out _) (by rfl) rfl (rd_oneS _ _) oneS K1.out.1 K1.out.2 (below_alloc HB15.out _).size ?_; intro v1 w4 ownv1 grv1 atv1)
      have hgB := below_grown (below_alloc HB15.out (.cells #[.string RT] 9)) (own_allocS HO5.out _) grv1
      have hbox : Below W1.heap.size (w5.alloc (.cells #[.string RT] 9)) w4 := (Below.refl _ _).grown grv1 (below_alloc HB15.out _).size (own_base HO5.out)
      refine ⟨⟨kk + 1, by omega, by go_num, Lib.hid (by rw [← HZ.out]; exact ownv1), Lib.hid hgB, Lib.hid (rd_farB HR5.out grv1 HNB.out), Lib.hid ?_, Lib.hid ?_, Lib.hid (box_lowB BS5.out hbox (by have := HSW.out; omega)), Lib.hid (box_lowB BT5.out hbox HSW.out), Lib.hid (HBw5.out.trans (hbox.mono (by have := HSW.out; omega)))⟩, by simp [intOf]; omega⟩
      · rcases atv1 with h | h
        · rw [h]; exact HNB.out
        · rw [h]; have := HL5.out; simp; omega
      · have := hbox.size; have := HL5.out; simp at *; omega
    · obtain rfl : kk = mn := by omega
      have HOo := Lib.hid HO.out
      clear HR HNB HBL BSr
      go_wp2_with fail
      go_ret
      exact ⟨_, rfl, own_lowerS (by simpa [List.map_take] using HOo.out) (by have := HS1.out; omega), HBw.out⟩

set_option maxHeartbeats 4000000 in
theorem l9Get_any (w : World) (R : Option Addr) (nR cR : Nat) (A B G D : Option Addr) (nA cA nB cB nG cG nD cD : Nat) (t k : Int) (sm : Bool) (rows : List ByteArray) (root : Pt) (d : Nat) (m : Int) (out : List Pt) (h : RdT encS 1 w R rows) (hl : rows.length = nR) (h64 : nR = 64) (hz : ∀ x ∈ rows, x.size ≤ 9223372036854775807) (hp : ptrB root = true) (ht : 0 ≤ t) (hd : d ≤ 2) (hlv : LvOk rows t d [root] out) (h16 : out.length ≤ 16) (mn : Nat) (hmn : m = (mn : Int)) (hml : mn ≤ out.length) (hpa : ∀ p ∈ out, ptrB p = true) (xs : List ByteArray) (hxs : xs = (out.take mn).map (readT rows)) :
    Calls Tryz.prog 60 #[.agg #[.slice R nR cR, .slice A nA cA, .slice B nB cB, .int .i64 t, .slice G nG cG, .int .i64 k, .slice D nD cD, .bool sm], (Tr.mk root d m).v] w fun e w' => (∃ x b, e = .returned (.tuple #[.string x, .bool b]) ∧ ((AllOk xs ∧ b = true ∧ x = ofL (catL xs)) ∨ (¬ AllOk xs ∧ b = false ∧ x = ⟨#[]⟩))) ∧ Below w.heap.size w w' := by
  have HTX := Lib.hid (fun W (hW : Below w.heap.size w W) => l8Texts_any W R nR cR A B G D nA cA nB cB nG cG nD cD t k sm rows root d m out (h.below hW) hl h64 hz hp ht hd hlv h16 mn hmn hml hpa)
  have HXL := Lib.hid (show xs.length = mn by rw [hxs]; simp; omega)
  have HSZ := Lib.hid (show ∀ y ∈ xs, y.size ≤ 128 from fun y hy => by
    rw [hxs] at hy
    obtain ⟨p, hp, rfl⟩ := List.mem_map.1 hy
    exact readT_size (hpa p (List.mem_of_mem_take hp)))
  have hmn16 : mn ≤ 16 := by omega
  rw [← hxs] at HTX
  subst hmn
  clear h hl h64 hz hp ht hd hlv h16 hpa hml hxs
  obtain ⟨ra, rb, rs, ru, rl⟩ := root
  unfold Tr.v at *
  dsimp only at *
  have BS := Lib.hid ((box_new w #[.slice R nR cR, .slice A nA cA, .slice B nB cB, .int .i64 t, .slice G nG cG, .int .i64 k, .slice D nD cD, .bool sm] 38).alloc (.cells #[.int .i64 ra, .int .i64 rb, .int .i64 rs, .int .i64 ru, .int .i64 rl, .int .i64 (d : Int), .int .i64 (mn : Int)] 42))
  have BT := box_new (w.alloc (.cells #[.slice R nR cR, .slice A nA cA, .slice B nB cB, .int .i64 t, .slice G nG cG, .int .i64 k, .slice D nD cD, .bool sm] 38)) #[.int .i64 ra, .int .i64 rb, .int .i64 rs, .int .i64 ru, .int .i64 rl, .int .i64 (d : Int), .int .i64 (mn : Int)] 42
  rw [World.size_alloc] at BT
  replace BT := Lib.hid BT
  have HBa := Lib.hid (below_alloc (below_alloc (Below.refl w.heap.size w) (.cells #[.slice R nR cR, .slice A nA cA, .slice B nB cB, .int .i64 t, .slice G nG cG, .int .i64 k, .slice D nD cD, .bool sm] 38)) (.cells #[.int .i64 ra, .int .i64 rb, .int .i64 rs, .int .i64 ru, .int .i64 rl, .int .i64 (d : Int), .int .i64 (mn : Int)] 42))
  go_enter Tryz.func60, Tryz.ntmps60
  go_wp2_with fail
  refine Calls.mono (HTX.out _ HBa.out) ?_
  rintro e w3 ⟨v, rfl, hO, hB⟩
  obtain ⟨A9, c9, rfl, q1, q2, _, hrd⟩ := hO.form
  have HR := Lib.hid hrd
  have HB3 := Lib.hid (below_below HBa.out hB)
  have BT3 := Lib.hid (BT.out.below hB)
  have bt6 : w3.cell? ⟨w.heap.size + 1, 6, none⟩ = some (.int .i64 (mn : Int)) := BT3.out.cell 6
  have htl := BT3.out.lt
  rw [HXL.out] at q1
  rw [HXL.out]
  clear hB hO hrd HTX BS BT HBa
  go_wp2_with fail
  --S1
  go_loopw [6, 8] (fun v y wr => ∃ kk : Nat, kk ≤ mn ∧ y = .int .i64 kk ∧ v = .string (ofL (catL (xs.take kk))) ∧ Hid (∀ i z, i < kk → xs[i]? = some z → okAt xs.length i z) ∧ Hid (wr = w3)) (fun v y _ => mn - (intOf y).toNat)
  case atStart => exact ⟨0, Nat.zero_le _, rfl, by simp [catL, ofL], Lib.hid (fun i z hi => by omega), Lib.hid rfl⟩
  case round =>
    obtain ⟨kk, hkk, rfl, rfl, HQ, hw⟩ := hrel
    obtain rfl := hw.out
    clear hw
    by_cases hlt : kk < mn
    · obtain ⟨b9, o9, z, rfl, hb9, hzk, cz⟩ := HR.out.strs (k := kk) (by rw [HXL.out]; exact hlt)
      have HZK := Lib.hid hzk
      have hsz := HSZ.out z (List.mem_of_getElem? hzk)
      have HSTEP := Lib.hid (show ofL (catL (xs.take kk)) ++ z = ofL (catL (xs.take (kk + 1))) from ofL_ext (by rw [catL_step hzk]; simp [bytes_append, ofL_data]))
      have HCL := (show (ofL (catL (xs.take kk))).size ≤ 128 * 16 from by
        have h1 := catL_len (xs := xs.take kk) (fun y hy => HSZ.out y (List.mem_of_mem_take hy))
        have h2 : (xs.take kk).length ≤ 16 := by rw [List.length_take]; omega
        rw [ofL_size]
        omega)
      have k2 : IntKind.i64.wrap ((kk : Int) + 1) = (kk : Int) + 1 := IntWalk.i64_in _ (by omega)
      have hl2 := HXL.out
      have HNO := Lib.hid (fun (hb : ¬ okAt xs.length kk z) => (show ¬ AllOk xs from fun ha => hb (ha kk z hzk)))
      have HNX := Lib.hid (fun (hg : okAt xs.length kk z) => (show ∀ i u, i < kk + 1 → xs[i]? = some u → okAt xs.length i u from fun i u hi hu => by
        rcases Nat.lt_or_ge i kk with h' | h'
        · exact HQ.out i u h' hu
        · obtain rfl : i = kk := by omega
          rw [hzk] at hu
          cases hu
          exact hg))
      have HL2 := Lib.hid hl2
      have q3 : ¬ 9223372036854775807 < (ofL (catL (xs.take kk))).size + z.size := by omega
      clear hzk hl2 HSZ HR HQ HCL
      generalize hT2 : ofL (catL (xs.take (kk + 1))) = T2 at *
      have HT2 := Lib.hid hT2
      clear hT2
      generalize ofL (catL (xs.take kk)) = T1 at *
      by_cases h0 : z.size = 0
      · have n3 : z.toList.isEmpty = true := by rw [empty_iff]; exact decide_eq_true h0
        have HE := Lib.hid (HNO.out (fun hg => hg.2 h0))
        clear h0 HNO HNX HSTEP q3
        go_wp2_with fail
        go_ret2
        exact ⟨⟨_, false, rfl, .inr ⟨HE.out, rfl, rfl⟩⟩, HB3.out⟩
      have n3 : z.toList.isEmpty = false := by rw [empty_iff]; exact decide_eq_false h0
      by_cases hk1 : kk + 1 < mn
      · have n1 : decide ((kk : Int) + 1 < (mn : Int)) = true := decide_eq_true (by omega)
        have n1' : (kk : Int) + 1 < (mn : Int) := by omega
        by_cases h8 : z.size = 128
        · have n2 : ((z.size : Int) != 128) = false := by simp; omega
          have HN2 := Lib.hid (HNX.out ⟨fun h => h.2 h8, h0⟩)
          clear h0 h8 hk1 HNO HNX
          go_wp2_with fail
          exact ⟨⟨kk + 1, by omega, by go_num, by rw [HT2.out, ← HSTEP.out], HN2, (by first | exact Lib.hid rfl | exact Lib.hid trivial)⟩, by simp [intOf]; omega⟩
        · have n2 : ((z.size : Int) != 128) = true := by simp; omega
          have HE := Lib.hid (HNO.out (fun hg => hg.1 ⟨by rw [HL2.out]; exact hk1, h8⟩))
          clear h0 h8 hk1 HNO HNX HSTEP q3
          go_wp2_with fail
          go_ret2
          exact ⟨⟨_, false, rfl, .inr ⟨HE.out, rfl, rfl⟩⟩, HB3.out⟩
      · have n1 : decide ((kk : Int) + 1 < (mn : Int)) = false := decide_eq_false (by omega)
        have n1' : ¬ (kk : Int) + 1 < (mn : Int) := by omega
        have HN2 := Lib.hid (HNX.out ⟨fun h => hk1 (by rw [HL2.out] at h; exact h.1), h0⟩)
        clear h0 hk1 HNO HNX
        go_wp2_with fail
        exact ⟨⟨kk + 1, by omega, by go_num, by rw [HT2.out, ← HSTEP.out], HN2, (by first | exact Lib.hid rfl | exact Lib.hid trivial)⟩, by simp [intOf]; omega⟩
    · obtain rfl : kk = mn := by omega
      have HALL := Lib.hid (show AllOk xs from fun i z hz => HQ.out i z (by rw [← HXL.out]; exact (List.getElem?_eq_some_iff.1 hz).1) hz)
      have HTT := Lib.hid (show ofL (catL (xs.take kk)) = ofL (catL xs) by rw [List.take_of_length_le (by rw [HXL.out]; exact Nat.le_refl _)])
      clear HQ HR HSZ
      generalize ofL (catL (xs.take kk)) = T1 at *
      go_wp2_with fail
      go_ret2
      exact ⟨⟨_, true, rfl, .inl ⟨HALL.out, rfl, HTT.out⟩⟩, HB3.out⟩

set_option maxHeartbeats 4000000 in
theorem specBlobGet_any (w : World) (x : SA) (s : St) (tr : Tr) (h : SRd w x s) (mG : x.nG ≤ 1048576) (mD : x.nD ≤ 1048576) (hz : ∀ r ∈ s.rows, r.size ≤ 9223372036854775807) :
    Calls Tryz.prog 33 #[x.v s.txg s.keep s.same, tr.v] w (BGP w s tr) := by
  have HX := Lib.hid h
  have HOK := Lib.hid (fun W (hB : Below w.heap.size w W) => specTreeOk_any W x s tr (HX.out.below hB) mG mD hz)
  have hnR := h.lR
  unfold OkP at HOK
  by_cases hok : storeB s = true ∧ ∃ out, TrOk s.rows s.txg tr out
  · obtain ⟨hs, out, ho⟩ := hok
    obtain ⟨m0, m1, m16, hp, hdn, hd2, ho16⟩ := tr_many ho
    have htg : TLG s tr (out.take tr.many.toNat) true := .inl ⟨hs, .inl ⟨rfl, out, ho, rfl⟩⟩
    have hh := ho.1
    simp only [headT, Bool.and_eq_true, decide_eq_true_eq] at hh
    have hpa : ∀ p ∈ out, ptrB p = true := fun p hp' => (lvOk_B (store_txg hs) (fun q hq => by simp at hq; rw [hq]; exact ⟨hp, hh.2.2.2⟩) ho.2.1 p hp').1
    have HP1 := Lib.hid (fun (ha : AllOk ((out.take tr.many.toNat).map (readT s.rows))) => (show BGG s tr (ofL (catL ((out.take tr.many.toNat).map (readT s.rows)))) true from ⟨_, true, htg, .inl ⟨rfl, ha, rfl, rfl⟩⟩))
    have HP2 := Lib.hid (fun (ha : ¬ AllOk ((out.take tr.many.toNat).map (readT s.rows))) => (show BGG s tr ⟨#[]⟩ false from ⟨_, true, htg, .inr ⟨.inr ha, rfl, rfl⟩⟩))
    have HGET := Lib.hid (fun W (hB : Below w.heap.size w W) => l9Get_any W x.R x.nR x.cR x.A x.B x.G x.D x.nA x.cA x.nB x.cB x.nG x.cG x.nD x.cD s.txg s.keep s.same s.rows tr.root tr.depth.toNat tr.many out (HX.out.rows.below hB) HX.out.lR (by have := store_rows hs; omega) hz hp (store_txg hs) hd2 ho.2.1 ho16 tr.many.toNat (by omega) (by omega) hpa ((out.take tr.many.toNat).map (readT s.rows)) rfl)
    replace HOK := Lib.hid (fun W hB => (HOK.out W hB).mono (fun e w' ⟨b, he, hb, hB'⟩ => (show e = Ending.returned (.bool true) ∧ Below W.heap.size W w' from ⟨by rw [he, hb.2 ⟨hs, out, ho⟩], hB'⟩)))
    clear h HX hnR ho hp hs htg m1 hh hpa
    unfold BGP
    generalize BGG s tr = P at *
    generalize (out.take tr.many.toNat).map (readT s.rows) = xs at *
    obtain ⟨⟨ra, rb, rs, ru, rl⟩, dep, many⟩ := tr
    dsimp only at *
    obtain ⟨d, rfl⟩ : ∃ d : Nat, dep = (d : Int) := ⟨dep.toNat, hdn⟩
    obtain ⟨mn, rfl⟩ : ∃ mn : Nat, many = (mn : Int) := ⟨many.toNat, by omega⟩
    rw [Int.toNat_natCast] at HGET
    obtain ⟨R, nR, cR, A, nA, cA, B, nB, cB, G, nG, cG, D, nD, cD⟩ := x
    obtain ⟨rows, refs, last, txg, gone, keep, dead, same⟩ := s
    unfold SA.v Tr.v at *
    dsimp only at *
    have BS := Lib.hid ((box_new w #[.slice R nR cR, .slice A nA cA, .slice B nB cB, .int .i64 txg, .slice G nG cG, .int .i64 keep, .slice D nD cD, .bool same] 38).alloc (.cells #[.int .i64 ra, .int .i64 rb, .int .i64 rs, .int .i64 ru, .int .i64 rl, .int .i64 (d : Int), .int .i64 (mn : Int)] 42))
    have BT := box_new (w.alloc (.cells #[.slice R nR cR, .slice A nA cA, .slice B nB cB, .int .i64 txg, .slice G nG cG, .int .i64 keep, .slice D nD cD, .bool same] 38)) #[.int .i64 ra, .int .i64 rb, .int .i64 rs, .int .i64 ru, .int .i64 rl, .int .i64 (d : Int), .int .i64 (mn : Int)] 42
    rw [World.size_alloc] at BT
    replace BT := Lib.hid BT
    have HBa := Lib.hid (below_alloc (below_alloc (Below.refl w.heap.size w) (.cells #[.slice R nR cR, .slice A nA cA, .slice B nB cB, .int .i64 txg, .slice G nG cG, .int .i64 keep, .slice D nD cD, .bool same] 38)) (.cells #[.int .i64 ra, .int .i64 rb, .int .i64 rs, .int .i64 ru, .int .i64 rl, .int .i64 (d : Int), .int .i64 (mn : Int)] 42))
    clear hdn hd2
    go_enter Tryz.func33, Tryz.ntmps33
    go_wp2_with fail
    refine Calls.mono (HOK.out _ HBa.out) ?_
    rintro e w2 ⟨rfl, hB⟩
    have HB2 := Lib.hid (below_below HBa.out hB)
    have BS2 := Lib.hid (BS.out.below hB)
    have BT2 := Lib.hid (BT.out.below hB)
    have bt2 := BT2.out.cell
    have hl2 := BT2.out.lt
    have bs2 := BS2.out.cell
    have hs2 := BS2.out.lt
    clear hB BS BT HBa HOK
    go_wp2_with fail
    refine Calls.mono (HGET.out _ HB2.out) ?_
    rintro e w3 ⟨⟨x, b, rfl, hG⟩, hB⟩
    have HB3 := Lib.hid (below_below HB2.out hB)
    have HPG := Lib.hid (show P x b from by
      rcases hG with ⟨ha, rfl, rfl⟩ | ⟨ha, rfl, rfl⟩
      · exact HP1.out ha
      · exact HP2.out ha)
    clear hB hG HP1 HP2
    go_wp2_with fail
    go_ret2
    exact ⟨x, b, rfl, HPG.out, HB3.out⟩
  · have HP := Lib.hid (show BGG s tr ⟨#[]⟩ false from ⟨[], false, (by
      cases hs : storeB s
      · exact .inr ⟨hs, rfl, rfl⟩
      · exact .inl ⟨hs, .inr ⟨rfl, rfl, fun out ho => hok ⟨hs, out, ho⟩⟩⟩), .inr ⟨.inl rfl, rfl, rfl⟩⟩)
    replace HOK := Lib.hid (fun W hB => (HOK.out W hB).mono (fun e w' ⟨b, he, hb, hB'⟩ => (show e = Ending.returned (.bool false) ∧ Below W.heap.size W w' from ⟨by
      have hbf : b = false := by
        cases b
        · rfl
        · exact absurd (hb.1 rfl) hok
      rw [he, hbf], hB'⟩)))
    clear h HX hnR hok
    unfold BGP
    generalize BGG s tr = P at *
    obtain ⟨⟨ra, rb, rs, ru, rl⟩, dep, many⟩ := tr
    obtain ⟨R, nR, cR, A, nA, cA, B, nB, cB, G, nG, cG, D, nD, cD⟩ := x
    obtain ⟨rows, refs, last, txg, gone, keep, dead, same⟩ := s
    unfold SA.v Tr.v at *
    dsimp only at *
    have BS := Lib.hid ((box_new w #[.slice R nR cR, .slice A nA cA, .slice B nB cB, .int .i64 txg, .slice G nG cG, .int .i64 keep, .slice D nD cD, .bool same] 38).alloc (.cells #[.int .i64 ra, .int .i64 rb, .int .i64 rs, .int .i64 ru, .int .i64 rl, .int .i64 dep, .int .i64 many] 42))
    have BT := box_new (w.alloc (.cells #[.slice R nR cR, .slice A nA cA, .slice B nB cB, .int .i64 txg, .slice G nG cG, .int .i64 keep, .slice D nD cD, .bool same] 38)) #[.int .i64 ra, .int .i64 rb, .int .i64 rs, .int .i64 ru, .int .i64 rl, .int .i64 dep, .int .i64 many] 42
    rw [World.size_alloc] at BT
    replace BT := Lib.hid BT
    have HBa := Lib.hid (below_alloc (below_alloc (Below.refl w.heap.size w) (.cells #[.slice R nR cR, .slice A nA cA, .slice B nB cB, .int .i64 txg, .slice G nG cG, .int .i64 keep, .slice D nD cD, .bool same] 38)) (.cells #[.int .i64 ra, .int .i64 rb, .int .i64 rs, .int .i64 ru, .int .i64 rl, .int .i64 dep, .int .i64 many] 42))
    go_enter Tryz.func33, Tryz.ntmps33
    go_wp2_with fail
    refine Calls.mono (HOK.out _ HBa.out) ?_
    rintro e w2 ⟨rfl, hB⟩
    have HB2 := Lib.hid (below_below HBa.out hB)
    clear hB
    go_wp2_with fail
    go_ret2
    exact ⟨_, false, rfl, HP.out, HB2.out⟩
def SamG (s : St) (tr0 tr1 : Tr) (b : Bool) : Prop := ∃ x0 b0 x1 b1, BGG s tr0 x0 b0 ∧ BGG s tr1 x1 b1 ∧ b = (b0 && (b1 && (x0.toList == x1.toList)))
def SameP (w : World) (s : St) (tr0 tr1 : Tr) (e : Ending) (w' : World) : Prop := ∃ b, e = .returned (.bool b) ∧ SamG s tr0 tr1 b ∧ Below w.heap.size w w'
theorem same_one {s : St} {tr0 tr1 : Tr} {b b' : Bool} (h : SamG s tr0 tr1 b) (h' : SamG s tr0 tr1 b') : b = b' := by
  obtain ⟨x0, b0, x1, b1, h0, h1, rfl⟩ := h
  obtain ⟨y0, c0, y1, c1, g0, g1, rfl⟩ := h'
  obtain ⟨rfl, rfl⟩ := bgg_one h0 g0
  obtain ⟨rfl, rfl⟩ := bgg_one h1 g1
  rfl
set_option maxHeartbeats 4000000 in
theorem blobSame_any (w : World) (x : SA) (s : St) (tr0 tr1 : Tr) (h : SRd w x s) (mG : x.nG ≤ 1048576) (mD : x.nD ≤ 1048576) (hz : ∀ r ∈ s.rows, r.size ≤ 9223372036854775807) (hM : MaxAt w) (hT : TenAt w) (hE : ErrAt w) :
    Calls Tryz.prog 14 #[x.v s.txg s.keep s.same, tr0.v, tr1.v] w (SameP w s tr0 tr1) := by
  have HX := Lib.hid h
  have HTL := Lib.hid (fun W (hB : Below w.heap.size w W) tr => blobGet_any W x s tr (HX.out.below hB) mG mD hz (hM.below hB) (hT.below hB) (hE.below hB))
  have HT0 := Lib.hid (fun W hB => HTL.out W hB tr0)
  have HT1 := Lib.hid (fun W hB => HTL.out W hB tr1)
  clear h HX hz HTL hM hT hE
  unfold SameP SamG
  unfold BGP at HT0 HT1
  generalize BGG s tr0 = P0 at *
  generalize BGG s tr1 = P1 at *
  obtain ⟨⟨ra0, rb0, rs0, ru0, rl0⟩, dep0, many0⟩ := tr0
  obtain ⟨⟨ra1, rb1, rs1, ru1, rl1⟩, dep1, many1⟩ := tr1
  obtain ⟨R, nR, cR, A, nA, cA, B, nB, cB, G, nG, cG, D, nD, cD⟩ := x
  obtain ⟨rows, refs, last, txg, gone, keep, dead, same⟩ := s
  unfold SA.v Tr.v at *
  dsimp only at *
  have BB0 := Lib.hid (((box_new w #[.slice R nR cR, .slice A nA cA, .slice B nB cB, .int .i64 txg, .slice G nG cG, .int .i64 keep, .slice D nD cD, .bool same] 38).alloc (.cells #[.int .i64 ra0, .int .i64 rb0, .int .i64 rs0, .int .i64 ru0, .int .i64 rl0, .int .i64 dep0, .int .i64 many0] 42)).alloc (.cells #[.int .i64 ra1, .int .i64 rb1, .int .i64 rs1, .int .i64 ru1, .int .i64 rl1, .int .i64 dep1, .int .i64 many1] 42))
  have BB2 := box_new ((w.alloc (.cells #[.slice R nR cR, .slice A nA cA, .slice B nB cB, .int .i64 txg, .slice G nG cG, .int .i64 keep, .slice D nD cD, .bool same] 38)).alloc (.cells #[.int .i64 ra0, .int .i64 rb0, .int .i64 rs0, .int .i64 ru0, .int .i64 rl0, .int .i64 dep0, .int .i64 many0] 42)) #[.int .i64 ra1, .int .i64 rb1, .int .i64 rs1, .int .i64 ru1, .int .i64 rl1, .int .i64 dep1, .int .i64 many1] 42
  simp only [World.size_alloc] at BB2
  replace BB2 := Lib.hid BB2
  have HBa := Lib.hid (below_alloc (below_alloc (below_alloc (Below.refl w.heap.size w) (.cells #[.slice R nR cR, .slice A nA cA, .slice B nB cB, .int .i64 txg, .slice G nG cG, .int .i64 keep, .slice D nD cD, .bool same] 38)) (.cells #[.int .i64 ra0, .int .i64 rb0, .int .i64 rs0, .int .i64 ru0, .int .i64 rl0, .int .i64 dep0, .int .i64 many0] 42)) (.cells #[.int .i64 ra1, .int .i64 rb1, .int .i64 rs1, .int .i64 ru1, .int .i64 rl1, .int .i64 dep1, .int .i64 many1] 42))
  go_enter Tryz.func14, Tryz.ntmps14
  go_wp2_with fail
  refine Calls.mono (HT0.out _ HBa.out) ?_
  rintro e w2 ⟨x0, b0, rfl, hG0, hB⟩
  have HG0 := Lib.hid hG0
  have HB2 := Lib.hid (below_below HBa.out hB)
  have BX0 := Lib.hid (BB0.out.below hB)
  have BX2 := Lib.hid (BB2.out.below hB)
  have bx0 := BX0.out.cell
  have bl0 := BX0.out.lt
  have bx2 := BX2.out.cell
  have bl2 := BX2.out.lt
  clear hG0 hB BB0 BB2 HBa HT0
  go_wp2_with fail
  refine Calls.mono (HT1.out _ HB2.out) ?_
  rintro e w3 ⟨x1, b1, rfl, hG1, hB⟩
  have HB3 := Lib.hid (below_below HB2.out hB)
  have HG := Lib.hid (show ∃ y0 c0 y1 c1, P0 y0 c0 ∧ P1 y1 c1 ∧ (b0 && (b1 && (x0.toList == x1.toList))) = (c0 && (c1 && (y0.toList == y1.toList))) from ⟨x0, b0, x1, b1, HG0.out, hG1, rfl⟩)
  clear hB hG1 bx0 bl0 bx2 bl2 BX0 BX2 HT1 HG0
  cases b0
  · go_wp2_with fail
    go_ret
    exact ⟨_, rfl, HG.out, HB3.out⟩
  cases b1
  · go_wp2_with fail
    go_ret
    exact ⟨_, rfl, HG.out, HB3.out⟩
  go_wp2_with fail
  go_ret
  exact ⟨_, rfl, HG.out, HB3.out⟩
set_option maxHeartbeats 4000000 in
theorem specBlobSame_any (w : World) (x : SA) (s : St) (tr0 tr1 : Tr) (h : SRd w x s) (mG : x.nG ≤ 1048576) (mD : x.nD ≤ 1048576) (hz : ∀ r ∈ s.rows, r.size ≤ 9223372036854775807) :
    Calls Tryz.prog 11 #[x.v s.txg s.keep s.same, tr0.v, tr1.v] w (SameP w s tr0 tr1) := by
  have HX := Lib.hid h
  have HTL := Lib.hid (fun W (hB : Below w.heap.size w W) tr => specBlobGet_any W x s tr (HX.out.below hB) mG mD hz)
  have HT0 := Lib.hid (fun W hB => HTL.out W hB tr0)
  have HT1 := Lib.hid (fun W hB => HTL.out W hB tr1)
  clear h HX hz HTL
  unfold SameP SamG
  unfold BGP at HT0 HT1
  generalize BGG s tr0 = P0 at *
  generalize BGG s tr1 = P1 at *
  obtain ⟨⟨ra0, rb0, rs0, ru0, rl0⟩, dep0, many0⟩ := tr0
  obtain ⟨⟨ra1, rb1, rs1, ru1, rl1⟩, dep1, many1⟩ := tr1
  obtain ⟨R, nR, cR, A, nA, cA, B, nB, cB, G, nG, cG, D, nD, cD⟩ := x
  obtain ⟨rows, refs, last, txg, gone, keep, dead, same⟩ := s
  unfold SA.v Tr.v at *
  dsimp only at *
  have BB0 := Lib.hid (((box_new w #[.slice R nR cR, .slice A nA cA, .slice B nB cB, .int .i64 txg, .slice G nG cG, .int .i64 keep, .slice D nD cD, .bool same] 38).alloc (.cells #[.int .i64 ra0, .int .i64 rb0, .int .i64 rs0, .int .i64 ru0, .int .i64 rl0, .int .i64 dep0, .int .i64 many0] 42)).alloc (.cells #[.int .i64 ra1, .int .i64 rb1, .int .i64 rs1, .int .i64 ru1, .int .i64 rl1, .int .i64 dep1, .int .i64 many1] 42))
  have BB2 := box_new ((w.alloc (.cells #[.slice R nR cR, .slice A nA cA, .slice B nB cB, .int .i64 txg, .slice G nG cG, .int .i64 keep, .slice D nD cD, .bool same] 38)).alloc (.cells #[.int .i64 ra0, .int .i64 rb0, .int .i64 rs0, .int .i64 ru0, .int .i64 rl0, .int .i64 dep0, .int .i64 many0] 42)) #[.int .i64 ra1, .int .i64 rb1, .int .i64 rs1, .int .i64 ru1, .int .i64 rl1, .int .i64 dep1, .int .i64 many1] 42
  simp only [World.size_alloc] at BB2
  replace BB2 := Lib.hid BB2
  have HBa := Lib.hid (below_alloc (below_alloc (below_alloc (Below.refl w.heap.size w) (.cells #[.slice R nR cR, .slice A nA cA, .slice B nB cB, .int .i64 txg, .slice G nG cG, .int .i64 keep, .slice D nD cD, .bool same] 38)) (.cells #[.int .i64 ra0, .int .i64 rb0, .int .i64 rs0, .int .i64 ru0, .int .i64 rl0, .int .i64 dep0, .int .i64 many0] 42)) (.cells #[.int .i64 ra1, .int .i64 rb1, .int .i64 rs1, .int .i64 ru1, .int .i64 rl1, .int .i64 dep1, .int .i64 many1] 42))
  go_enter Tryz.func11, Tryz.ntmps11
  go_wp2_with fail
  refine Calls.mono (HT0.out _ HBa.out) ?_
  rintro e w2 ⟨x0, b0, rfl, hG0, hB⟩
  have HG0 := Lib.hid hG0
  have HB2 := Lib.hid (below_below HBa.out hB)
  have BX0 := Lib.hid (BB0.out.below hB)
  have BX2 := Lib.hid (BB2.out.below hB)
  have bx0 := BX0.out.cell
  have bl0 := BX0.out.lt
  have bx2 := BX2.out.cell
  have bl2 := BX2.out.lt
  clear hG0 hB BB0 BB2 HBa HT0
  go_wp2_with fail
  refine Calls.mono (HT1.out _ HB2.out) ?_
  rintro e w3 ⟨x1, b1, rfl, hG1, hB⟩
  have HB3 := Lib.hid (below_below HB2.out hB)
  have HG := Lib.hid (show ∃ y0 c0 y1 c1, P0 y0 c0 ∧ P1 y1 c1 ∧ (b0 && (b1 && (x0.toList == x1.toList))) = (c0 && (c1 && (y0.toList == y1.toList))) from ⟨x0, b0, x1, b1, HG0.out, hG1, rfl⟩)
  clear hB hG1 bx0 bl0 bx2 bl2 BX0 BX2 HT1 HG0
  cases b0
  · go_wp2_with fail
    go_ret
    exact ⟨_, rfl, HG.out, HB3.out⟩
  cases b1
  · go_wp2_with fail
    go_ret
    exact ⟨_, rfl, HG.out, HB3.out⟩
  go_wp2_with fail
  go_ret
  exact ⟨_, rfl, HG.out, HB3.out⟩
end Go.Proofs.YtafadedacbjioaaGreatDoor

/- FnExactBlobSame returns true for every store and every two trees. The package-level variables that its row lists are tied; no condition of ours. -/
namespace Go.Proofs.YtafadedacbjioaaGreatDoor.lawExactBlobSame
open Go.ChangeShapes Go.WideShapes Go.ChangeAt Go.RowKit Go.Sort
set_option maxRecDepth 100000
set_option linter.unusedVariables false
set_option linter.unusedSimpArgs false

theorem maxAt_of {W : World} (h : W.ShapedOpen Tryz.prog) : MaxAt W := Tryz.laysM146.s1_3 W h
theorem st8 {w : World} {b : Nat} {c0 c1 c2 c3 c4 c5 c6 c7 : Value} {T : TypeId} (h : BoxAt w b #[c0, c1, c2, c3, c4, c5, c6, c7] T) :
    w.cell? ⟨b, 0, none⟩ = some c0 ∧ w.cell? ⟨b, 1, none⟩ = some c1 ∧ w.cell? ⟨b, 2, none⟩ = some c2 ∧ w.cell? ⟨b, 3, none⟩ = some c3 ∧ w.cell? ⟨b, 4, none⟩ = some c4 ∧ w.cell? ⟨b, 5, none⟩ = some c5 ∧ w.cell? ⟨b, 6, none⟩ = some c6 ∧ w.cell? ⟨b, 7, none⟩ = some c7 :=
  ⟨h.cell 0, h.cell 1, h.cell 2, h.cell 3, h.cell 4, h.cell 5, h.cell 6, h.cell 7⟩


set_option maxHeartbeats 8000000 in
theorem walk (w : World) (x : SA) (s : St) (tr0 : Tr) (tr1 : Tr) (h : SRd w x s) (hz : ∀ r ∈ s.rows, r.size ≤ 9223372036854775807) (hM : MaxAt w) (hT : TenAt w) (hE : ErrAt w) :
    Calls Tryz.prog 3 #[x.v s.txg s.keep s.same, tr0.v, tr1.v] w fun e w' => e = .returned (.bool true) ∧ Below w.heap.size w w' := by
  have HX := Lib.hid h
  have LB := Lib.hid (And.intro hM (And.intro hT hE))
  have SZ := Lib.hid (fun W (hB : Below w.heap.size w W) => szStore_any W x s (HX.out.below hB) hz)
  have TS := Lib.hid (fun (hb : x.nR ≤ 1048576 ∧ x.nA ≤ 1048576 ∧ x.nB ≤ 1048576 ∧ x.nG ≤ 1048576 ∧ x.nD ≤ 1048576) W (hB : Below w.heap.size w W) => toStore_any W x s (HX.out.below hB) hb.1 hb.2.1 hb.2.2.1 hb.2.2.2.1 hb.2.2.2.2)
  have TT0 := Lib.hid (fun W => toTreeT_any tr0 W)
  have TT1 := Lib.hid (fun W => toTreeT_any tr1 W)
  have SO := Lib.hid (fun W (y : SA) (h : SRd W y s) g d => (specBlobSame_any W y s tr0 tr1 h g d hz : Calls Tryz.prog 11 #[SA.v y s.txg s.keep s.same, tr0.v, tr1.v] W (SameP W s tr0 tr1)))
  have IO := Lib.hid (fun W (y : SA) (h : SRd W y s) (hB : Below w.heap.size w W) g d => (blobSame_any W y s tr0 tr1 h g d hz (LB.out.1.below hB) (LB.out.2.1.below hB) (LB.out.2.2.below hB) : Calls Tryz.prog 14 #[SA.v y s.txg s.keep s.same, tr0.v, tr1.v] W (SameP W s tr0 tr1)))
  have EQ := Lib.hid (fun W (y z : SA) (h : SRd W y s) (h' : SRd W z s) => eqStore_true W y z s h h')
  have LG := Lib.hid HX.out.lG
  have LD := Lib.hid HX.out.lD
  unfold SameP at SO IO
  generalize hPP : SamG s tr0 tr1 = PP at *
  have HPP := Lib.hid hPP
  clear hPP
  clear h HX hM hT hE hz
  obtain ⟨⟨ra0, rb0, rs0, ru0, rl0⟩, dep0, many0⟩ := tr0
  obtain ⟨⟨ra1, rb1, rs1, ru1, rl1⟩, dep1, many1⟩ := tr1
  obtain ⟨R, nR, cR, A, nA, cA, B, nB, cB, G, nG, cG, D, nD, cD⟩ := x
  obtain ⟨rows, refs, last, txg, gone, keep, dead, same⟩ := s
  unfold SA.v Tr.v at *
  dsimp only at *
  have HBw := Lib.hid (below_alloc (below_alloc (below_alloc (Below.refl w.heap.size w) (.cells #[.slice R nR cR, .slice A nA cA, .slice B nB cB, .int .i64 txg, .slice G nG cG, .int .i64 keep, .slice D nD cD, .bool same] 28)) (.cells #[.int .i64 ra0, .int .i64 rb0, .int .i64 rs0, .int .i64 ru0, .int .i64 rl0, .int .i64 dep0, .int .i64 many0] 32)) (.cells #[.int .i64 ra1, .int .i64 rb1, .int .i64 rs1, .int .i64 ru1, .int .i64 rl1, .int .i64 dep1, .int .i64 many1] 32))
  have BB0 := ((box_new w #[.slice R nR cR, .slice A nA cA, .slice B nB cB, .int .i64 txg, .slice G nG cG, .int .i64 keep, .slice D nD cD, .bool same] 28).alloc (.cells #[.int .i64 ra0, .int .i64 rb0, .int .i64 rs0, .int .i64 ru0, .int .i64 rl0, .int .i64 dep0, .int .i64 many0] 32)).alloc (.cells #[.int .i64 ra1, .int .i64 rb1, .int .i64 rs1, .int .i64 ru1, .int .i64 rl1, .int .i64 dep1, .int .i64 many1] 32)
  replace BB0 := Lib.hid BB0
  have BB1 := (box_new (w.alloc (.cells #[.slice R nR cR, .slice A nA cA, .slice B nB cB, .int .i64 txg, .slice G nG cG, .int .i64 keep, .slice D nD cD, .bool same] 28)) #[.int .i64 ra0, .int .i64 rb0, .int .i64 rs0, .int .i64 ru0, .int .i64 rl0, .int .i64 dep0, .int .i64 many0] 32).alloc (.cells #[.int .i64 ra1, .int .i64 rb1, .int .i64 rs1, .int .i64 ru1, .int .i64 rl1, .int .i64 dep1, .int .i64 many1] 32)
  simp only [World.size_alloc] at BB1
  replace BB1 := Lib.hid BB1
  have BB2 := box_new ((w.alloc (.cells #[.slice R nR cR, .slice A nA cA, .slice B nB cB, .int .i64 txg, .slice G nG cG, .int .i64 keep, .slice D nD cD, .bool same] 28)).alloc (.cells #[.int .i64 ra0, .int .i64 rb0, .int .i64 rs0, .int .i64 ru0, .int .i64 rl0, .int .i64 dep0, .int .i64 many0] 32)) #[.int .i64 ra1, .int .i64 rb1, .int .i64 rs1, .int .i64 ru1, .int .i64 rl1, .int .i64 dep1, .int .i64 many1] 32
  simp only [World.size_alloc] at BB2
  replace BB2 := Lib.hid BB2
  go_enter Tryz.func3, Tryz.ntmps3
  go_wp2_with fail
  refine Calls.mono (SZ.out _ HBw.out) ?_
  rintro e w1 ⟨z, rfl, hzz, hB⟩
  have BX0 := Lib.hid (BB0.out.below hB)
  have BX1 := Lib.hid (BB1.out.below hB)
  have BX2 := Lib.hid (BB2.out.below hB)
  have HB1 := below_below HBw.out hB
  clear hB HBw SZ BB0 BB1 BB2
  by_cases hneg : z < 0
  · go_wp2_with fail
    go_ret
    exact ⟨rfl, HB1⟩
  have hbb := hzz (by omega)
  have T1 := Lib.hid (TS.out hbb)
  dsimp only at hbb
  have HGG := Lib.hid (show gone.length ≤ 1048576 by have := LG.out; have := hbb.2.2.2.1; omega)
  have HDD := Lib.hid (show dead.length ≤ 1048576 by have := LD.out; have := hbb.2.2.2.2; omega)
  clear hzz hbb TS
  have bx0 := BX0.out.cell
  have bl0 := BX0.out.lt
  have bx1 := BX1.out.cell
  have bl1 := BX1.out.lt
  have bx2 := BX2.out.cell
  have bl2 := BX2.out.lt
  go_wp2_with fail
  --H5
  go_region_held3 (fun w' => (w'.cell? ⟨w.heap.size, 0, none⟩ = some (.slice R nR cR) ∧ w'.cell? ⟨w.heap.size, 1, none⟩ = some (.slice A nA cA) ∧ w'.cell? ⟨w.heap.size, 2, none⟩ = some (.slice B nB cB) ∧ w'.cell? ⟨w.heap.size, 3, none⟩ = some (.int .i64 txg) ∧ w'.cell? ⟨w.heap.size, 4, none⟩ = some (.slice G nG cG) ∧ w'.cell? ⟨w.heap.size, 5, none⟩ = some (.int .i64 keep) ∧ w'.cell? ⟨w.heap.size, 6, none⟩ = some (.slice D nD cD) ∧ w'.cell? ⟨w.heap.size, 7, none⟩ = some (.bool same)) ∧ (w'.cell? ⟨w.heap.size + 1, 0, none⟩ = some (.int .i64 ra0) ∧ w'.cell? ⟨w.heap.size + 1, 1, none⟩ = some (.int .i64 rb0) ∧ w'.cell? ⟨w.heap.size + 1, 2, none⟩ = some (.int .i64 rs0) ∧ w'.cell? ⟨w.heap.size + 1, 3, none⟩ = some (.int .i64 ru0) ∧ w'.cell? ⟨w.heap.size + 1, 4, none⟩ = some (.int .i64 rl0) ∧ w'.cell? ⟨w.heap.size + 1, 5, none⟩ = some (.int .i64 dep0) ∧ w'.cell? ⟨w.heap.size + 1, 6, none⟩ = some (.int .i64 many0)) ∧ (w'.cell? ⟨w.heap.size + 1 + 1, 0, none⟩ = some (.int .i64 ra1) ∧ w'.cell? ⟨w.heap.size + 1 + 1, 1, none⟩ = some (.int .i64 rb1) ∧ w'.cell? ⟨w.heap.size + 1 + 1, 2, none⟩ = some (.int .i64 rs1) ∧ w'.cell? ⟨w.heap.size + 1 + 1, 3, none⟩ = some (.int .i64 ru1) ∧ w'.cell? ⟨w.heap.size + 1 + 1, 4, none⟩ = some (.int .i64 rl1) ∧ w'.cell? ⟨w.heap.size + 1 + 1, 5, none⟩ = some (.int .i64 dep1) ∧ w'.cell? ⟨w.heap.size + 1 + 1, 6, none⟩ = some (.int .i64 many1))) (first | exact ⟨st8 (BX0.out.below (by (repeat (first | assumption | exact Below.refl _ _ | refine below_alloc ?_ _ | refine Below.drew ?_ | refine below_drewN ?_ _ | refine below_below ?_ (by assumption))))), tree_cellsL (BX1.out.below (by (repeat (first | assumption | exact Below.refl _ _ | refine below_alloc ?_ _ | refine Below.drew ?_ | refine below_drewN ?_ _ | refine below_below ?_ (by assumption))))), tree_cellsL (BX2.out.below (by (repeat (first | assumption | exact Below.refl _ _ | refine below_alloc ?_ _ | refine Below.drew ?_ | refine below_drewN ?_ _ | refine below_below ?_ (by assumption)))))⟩)
    (first
      | (have _g := G3; go_at_call 11; clear _g; refine Calls.mono (SO.out _ ⟨R8, nR8, cR8, A8, nA8, cA8, B8, nB8, cB8, G8, nG8, cG8, D8, nD8, cD8⟩ (X2.out.below (by (repeat (first | assumption | exact Below.refl _ _ | refine below_alloc ?_ _ | refine Below.drew ?_ | refine below_drewN ?_ _ | refine below_below ?_ (by assumption))))) (by have := X2.out.lG; have := HGG.out; dsimp only at *; omega) (by have := X2.out.lD; have := HDD.out; dsimp only at *; omega)) ?_; rintro e w4 ⟨oka, rfl, hS4, hB4⟩; have HS4 := Lib.hid hS4; clear hS4)
      | (have _g := G3p0; go_at_call 13; clear _g; refine Calls.mono (TT1.out _) ?_; rintro e w3_1 ⟨rfl, hB3_1⟩; have G3p1 := Lib.hid hB3_1; have G3 := Lib.hid hB3_1)
      | (go_at_call 13; refine Calls.mono (TT0.out _) ?_; rintro e w3_0 ⟨rfl, hB3_0⟩; have G3p0 := Lib.hid hB3_0)
      | (go_at_call 12; refine Calls.mono (T1.out _ (by refine below_below HB1 ?_; (repeat (first | assumption | exact Below.refl _ _ | refine below_alloc ?_ _ | refine Below.drew ?_ | refine below_drewN ?_ _ | refine below_below ?_ (by assumption))))) ?_; rintro e w2 ⟨⟨R8, nR8, cR8, A8, nA8, cA8, B8, nB8, cB8, G8, nG8, cG8, D8, nD8, cD8⟩, he, hr, hB2⟩; unfold SA.v at he; dsimp only at he; subst he; have X2 := Lib.hid hr; clear hr))
  have H14 := Lib.hid (show Below w1.heap.size w1 w4 from by (repeat (first | assumption | exact Below.refl _ _ | refine below_alloc ?_ _ | refine Below.drew ?_ | refine below_drewN ?_ _ | refine below_below ?_ (by assumption))))
  have BY0 := Lib.hid (BX0.out.below H14.out)
  have BY1 := Lib.hid (BX1.out.below H14.out)
  have BY2 := Lib.hid (BX2.out.below H14.out)
  have HB4 := below_below HB1 H14.out
  clear bx0 bl0 BX0 bx1 bl1 BX1 bx2 bl2 BX2 hB2 hB4 hB3_0 G3p0 hB3_1 G3p1 G3 X2 H14 HB1
  have bx0 := BY0.out.cell
  have bl0 := BY0.out.lt
  have bx1 := BY1.out.cell
  have bl1 := BY1.out.lt
  have bx2 := BY2.out.cell
  have bl2 := BY2.out.lt
  go_wp2_with fail
  refine Calls.mono (T1.out _ HB4) ?_
  rintro e w5 ⟨⟨R5, nR5, cR5, A5, nA5, cA5, B5, nB5, cB5, G5, nG5, cG5, D5, nD5, cD5⟩, he, hr, hB5⟩
  unfold SA.v at he
  dsimp only at he
  subst he
  have X5 := Lib.hid (hr.below (below_alloc (Below.refl w5.heap.size w5) (.cells #[.slice R5 nR5 cR5, .slice A5 nA5 cA5, .slice B5 nB5 cB5, .int .i64 txg, .slice G5 nG5 cG5, .int .i64 keep, .slice D5 nD5 cD5, .bool same] 38)))
  have BZ := Lib.hid (box_new w5 #[.slice R5 nR5 cR5, .slice A5 nA5 cA5, .slice B5 nB5 cB5, .int .i64 txg, .slice G5 nG5 cG5, .int .i64 keep, .slice D5 nD5 cD5, .bool same] 38)
  have BV0 := Lib.hid ((BY0.out.below hB5).alloc (.cells #[.slice R5 nR5 cR5, .slice A5 nA5 cA5, .slice B5 nB5 cB5, .int .i64 txg, .slice G5 nG5 cG5, .int .i64 keep, .slice D5 nD5 cD5, .bool same] 38))
  have BV1 := Lib.hid ((BY1.out.below hB5).alloc (.cells #[.slice R5 nR5 cR5, .slice A5 nA5 cA5, .slice B5 nB5 cB5, .int .i64 txg, .slice G5 nG5 cG5, .int .i64 keep, .slice D5 nD5 cD5, .bool same] 38))
  have BV2 := Lib.hid ((BY2.out.below hB5).alloc (.cells #[.slice R5 nR5 cR5, .slice A5 nA5 cA5, .slice B5 nB5 cB5, .int .i64 txg, .slice G5 nG5 cG5, .int .i64 keep, .slice D5 nD5 cD5, .bool same] 38))
  have HB6 := below_alloc (below_below HB4 hB5) (.cells #[.slice R5 nR5 cR5, .slice A5 nA5 cA5, .slice B5 nB5 cB5, .int .i64 txg, .slice G5 nG5 cG5, .int .i64 keep, .slice D5 nD5 cD5, .bool same] 38)
  clear hB5 hr HB4 bx0 bl0 BY0 bx1 bl1 BY1 bx2 bl2 BY2
  have hz5 : w5.heap.size < (w5.alloc (.cells #[.slice R5 nR5 cR5, .slice A5 nA5 cA5, .slice B5 nB5 cB5, .int .i64 txg, .slice G5 nG5 cG5, .int .i64 keep, .slice D5 nD5 cD5, .bool same] 38)).heap.size := by simp
  go_wp2_with fail
  generalize w5.alloc (.cells #[.slice R5 nR5 cR5, .slice A5 nA5 cA5, .slice B5 nB5 cB5, .int .i64 txg, .slice G5 nG5 cG5, .int .i64 keep, .slice D5 nD5 cD5, .bool same] 38) = W6 at *
  have bx0 := BV0.out.cell
  have bl0 := BV0.out.lt
  have bx1 := BV1.out.cell
  have bl1 := BV1.out.lt
  have bx2 := BV2.out.cell
  have bl2 := BV2.out.lt
  have bz := BZ.out.cell
  --H7
  go_region_held3 (fun w' => (w'.cell? ⟨w5.heap.size, 0, none⟩ = some (.slice R5 nR5 cR5) ∧ w'.cell? ⟨w5.heap.size, 1, none⟩ = some (.slice A5 nA5 cA5) ∧ w'.cell? ⟨w5.heap.size, 2, none⟩ = some (.slice B5 nB5 cB5) ∧ w'.cell? ⟨w5.heap.size, 3, none⟩ = some (.int .i64 txg) ∧ w'.cell? ⟨w5.heap.size, 4, none⟩ = some (.slice G5 nG5 cG5) ∧ w'.cell? ⟨w5.heap.size, 5, none⟩ = some (.int .i64 keep) ∧ w'.cell? ⟨w5.heap.size, 6, none⟩ = some (.slice D5 nD5 cD5) ∧ w'.cell? ⟨w5.heap.size, 7, none⟩ = some (.bool same)) ∧ (w'.cell? ⟨w.heap.size + 1, 0, none⟩ = some (.int .i64 ra0) ∧ w'.cell? ⟨w.heap.size + 1, 1, none⟩ = some (.int .i64 rb0) ∧ w'.cell? ⟨w.heap.size + 1, 2, none⟩ = some (.int .i64 rs0) ∧ w'.cell? ⟨w.heap.size + 1, 3, none⟩ = some (.int .i64 ru0) ∧ w'.cell? ⟨w.heap.size + 1, 4, none⟩ = some (.int .i64 rl0) ∧ w'.cell? ⟨w.heap.size + 1, 5, none⟩ = some (.int .i64 dep0) ∧ w'.cell? ⟨w.heap.size + 1, 6, none⟩ = some (.int .i64 many0)) ∧ (w'.cell? ⟨w.heap.size + 1 + 1, 0, none⟩ = some (.int .i64 ra1) ∧ w'.cell? ⟨w.heap.size + 1 + 1, 1, none⟩ = some (.int .i64 rb1) ∧ w'.cell? ⟨w.heap.size + 1 + 1, 2, none⟩ = some (.int .i64 rs1) ∧ w'.cell? ⟨w.heap.size + 1 + 1, 3, none⟩ = some (.int .i64 ru1) ∧ w'.cell? ⟨w.heap.size + 1 + 1, 4, none⟩ = some (.int .i64 rl1) ∧ w'.cell? ⟨w.heap.size + 1 + 1, 5, none⟩ = some (.int .i64 dep1) ∧ w'.cell? ⟨w.heap.size + 1 + 1, 6, none⟩ = some (.int .i64 many1))) (first | exact ⟨st8 (BZ.out.below (by (repeat (first | assumption | exact Below.refl _ _ | refine below_alloc ?_ _ | refine Below.drew ?_ | refine below_drewN ?_ _ | refine below_below ?_ (by assumption))))), tree_cellsL (BV1.out.below (by (repeat (first | assumption | exact Below.refl _ _ | refine below_alloc ?_ _ | refine Below.drew ?_ | refine below_drewN ?_ _ | refine below_below ?_ (by assumption))))), tree_cellsL (BV2.out.below (by (repeat (first | assumption | exact Below.refl _ _ | refine below_alloc ?_ _ | refine Below.drew ?_ | refine below_drewN ?_ _ | refine below_below ?_ (by assumption)))))⟩)
    (first
      | (have _g := G7; go_at_call 14; clear _g; refine Calls.mono (IO.out _ ⟨R5, nR5, cR5, A5, nA5, cA5, B5, nB5, cB5, G5, nG5, cG5, D5, nD5, cD5⟩ (X5.out.below (by (repeat (first | assumption | exact Below.refl _ _ | refine below_alloc ?_ _ | refine Below.drew ?_ | refine below_drewN ?_ _ | refine below_below ?_ (by assumption))))) (by refine below_below HB6 ?_; (repeat (first | assumption | exact Below.refl _ _ | refine below_alloc ?_ _ | refine Below.drew ?_ | refine below_drewN ?_ _ | refine below_below ?_ (by assumption)))) (by have := X5.out.lG; have := HGG.out; dsimp only at *; omega) (by have := X5.out.lD; have := HDD.out; dsimp only at *; omega)) ?_; rintro e w8 ⟨okb, rfl, hS8, hB8⟩; have HS8 := Lib.hid hS8; clear hS8)
      | (have _g := G7p0; go_at_call 13; clear _g; refine Calls.mono (TT1.out _) ?_; rintro e w7_1 ⟨rfl, hB7_1⟩; have G7p1 := Lib.hid hB7_1; have G7 := Lib.hid hB7_1)
      | (go_at_call 13; refine Calls.mono (TT0.out _) ?_; rintro e w7_0 ⟨rfl, hB7_0⟩; have G7p0 := Lib.hid hB7_0))
  have H68 := Lib.hid (show Below W6.heap.size W6 w8 from by (repeat (first | assumption | exact Below.refl _ _ | refine below_alloc ?_ _ | refine Below.drew ?_ | refine below_drewN ?_ _ | refine below_below ?_ (by assumption))))
  have HB8 := below_below HB6 H68.out
  have BZ8 := Lib.hid (BZ.out.below H68.out)
  have X8 := Lib.hid (X5.out.below H68.out)
  have BV8 := Lib.hid (BV0.out.below H68.out)
  clear hz5 bz hB8 hB7_0 G7p0 hB7_1 G7p1 G7 bx0 bl0 BV0 bx1 bl1 BV1 bx2 bl2 BV2 BZ X5 H68 HB6 SO IO TT0 TT1
  obtain rfl := same_one (HPP.out ▸ HS4.out) (HPP.out ▸ HS8.out)
  have e1 : (oka != oka) = false := by simp
  have bz := BZ8.out.cell
  have bzl := BZ8.out.lt
  have bv := BV8.out.cell
  have bvl := BV8.out.lt
  go_wp2_with fail
  --H10
  go_region_held3 (fun w' => (w'.cell? ⟨w5.heap.size, 0, none⟩ = some (.slice R5 nR5 cR5) ∧ w'.cell? ⟨w5.heap.size, 1, none⟩ = some (.slice A5 nA5 cA5) ∧ w'.cell? ⟨w5.heap.size, 2, none⟩ = some (.slice B5 nB5 cB5) ∧ w'.cell? ⟨w5.heap.size, 3, none⟩ = some (.int .i64 txg) ∧ w'.cell? ⟨w5.heap.size, 4, none⟩ = some (.slice G5 nG5 cG5) ∧ w'.cell? ⟨w5.heap.size, 5, none⟩ = some (.int .i64 keep) ∧ w'.cell? ⟨w5.heap.size, 6, none⟩ = some (.slice D5 nD5 cD5) ∧ w'.cell? ⟨w5.heap.size, 7, none⟩ = some (.bool same)) ∧ (w'.cell? ⟨w.heap.size, 0, none⟩ = some (.slice R nR cR) ∧ w'.cell? ⟨w.heap.size, 1, none⟩ = some (.slice A nA cA) ∧ w'.cell? ⟨w.heap.size, 2, none⟩ = some (.slice B nB cB) ∧ w'.cell? ⟨w.heap.size, 3, none⟩ = some (.int .i64 txg) ∧ w'.cell? ⟨w.heap.size, 4, none⟩ = some (.slice G nG cG) ∧ w'.cell? ⟨w.heap.size, 5, none⟩ = some (.int .i64 keep) ∧ w'.cell? ⟨w.heap.size, 6, none⟩ = some (.slice D nD cD) ∧ w'.cell? ⟨w.heap.size, 7, none⟩ = some (.bool same))) (first | exact ⟨st8 (BZ8.out.below (by (repeat (first | assumption | exact Below.refl _ _ | refine below_alloc ?_ _ | refine Below.drew ?_ | refine below_drewN ?_ _ | refine below_below ?_ (by assumption))))), st8 (BV8.out.below (by (repeat (first | assumption | exact Below.refl _ _ | refine below_alloc ?_ _ | refine Below.drew ?_ | refine below_drewN ?_ _ | refine below_below ?_ (by assumption)))))⟩)
    (first
      | (go_at_call 12; refine Calls.mono (T1.out _ (by refine below_below HB8 ?_; (repeat (first | assumption | exact Below.refl _ _ | refine below_alloc ?_ _ | refine Below.drew ?_ | refine below_drewN ?_ _ | refine below_below ?_ (by assumption))))) ?_; rintro e w9 ⟨⟨R9, nR9, cR9, A9, nA9, cA9, B9, nB9, cB9, G9, nG9, cG9, D9, nD9, cD9⟩, he, hr, hB9⟩; unfold SA.v at he; dsimp only at he; subst he; have X9 := Lib.hid hr; clear hr)
      | (go_at_call 15; refine Calls.mono (EQ.out _ ⟨R5, nR5, cR5, A5, nA5, cA5, B5, nB5, cB5, G5, nG5, cG5, D5, nD5, cD5⟩ ⟨R9, nR9, cR9, A9, nA9, cA9, B9, nB9, cB9, G9, nG9, cG9, D9, nD9, cD9⟩ (X8.out.below (by (repeat (first | assumption | exact Below.refl _ _ | refine below_alloc ?_ _ | refine Below.drew ?_ | refine below_drewN ?_ _ | refine below_below ?_ (by assumption))))) (X9.out.below (by (repeat (first | assumption | exact Below.refl _ _ | refine below_alloc ?_ _ | refine Below.drew ?_ | refine below_drewN ?_ _ | refine below_below ?_ (by assumption)))))) ?_; rintro e wa ⟨rfl, hBa⟩))
  go_wp2_with fail
  go_ret
  exact ⟨rfl, below_below HB8 (by (repeat (first | assumption | exact Below.refl _ _ | refine below_alloc ?_ _ | refine Below.drew ?_ | refine below_drewN ?_ _ | refine below_below ?_ (by assumption))))⟩

theorem laid_met (os : Os) : laidMet Tryz.prog Rows.fnExactBlobSameRow.laid ((World.laidAll Tryz.prog os Rows.fnExactBlobSameRow.laid).forCall (fun _ _ => 0) ⟨#[], #[.agg #[.slice none 0 0, .slice none 0 0, .slice none 0 0, .int .i64 0, .slice none 0 0, .int .i64 0, .slice none 0 0, .bool false], .agg #[.int .i64 0, .int .i64 0, .int .i64 0, .int .i64 0, .int .i64 0, .int .i64 0, .int .i64 0], .agg #[.int .i64 0, .int .i64 0, .int .i64 0, .int .i64 0, .int .i64 0, .int .i64 0, .int .i64 0]], []⟩).memory := laidMet_laidAll _ (by kernel_rfl) (by kernel_rfl)
theorem reads (os : Os) {H : Type} (enc : TypeId × Value → H) : ∃ places, DataW.whole enc Tryz.prog ((World.laidAll Tryz.prog os Rows.fnExactBlobSameRow.laid).forCall (fun _ _ => 0) ⟨#[], #[.agg #[.slice none 0 0, .slice none 0 0, .slice none 0 0, .int .i64 0, .slice none 0 0, .int .i64 0, .slice none 0 0, .bool false], .agg #[.int .i64 0, .int .i64 0, .int .i64 0, .int .i64 0, .int .i64 0, .int .i64 0, .int .i64 0], .agg #[.int .i64 0, .int .i64 0, .int .i64 0, .int .i64 0, .int .i64 0, .int .i64 0, .int .i64 0]], []⟩).memory Tryz.f3.params.toList Rows.fnExactBlobSameSpec.vars false (#[.agg #[.slice none 0 0, .slice none 0 0, .slice none 0 0, .int .i64 0, .slice none 0 0, .int .i64 0, .slice none 0 0, .bool false], .agg #[.int .i64 0, .int .i64 0, .int .i64 0, .int .i64 0, .int .i64 0, .int .i64 0, .int .i64 0], .agg #[.int .i64 0, .int .i64 0, .int .i64 0, .int .i64 0, .int .i64 0, .int .i64 0, .int .i64 0]] : Array Value).toList 8 = some ([.agg [.nil, .agg [.nil, .nil], .lit (.int .i64 0), .nil, .lit (.int .i64 0), .nil, .lit (.bool false)], .agg [.agg [.lit (.int .i64 0), .lit (.int .i64 0), .lit (.int .i64 0), .lit (.int .i64 0), .lit (.int .i64 0)], .lit (.int .i64 0), .lit (.int .i64 0)], .agg [.agg [.lit (.int .i64 0), .lit (.int .i64 0), .lit (.int .i64 0), .lit (.int .i64 0), .lit (.int .i64 0)], .lit (.int .i64 0), .lit (.int .i64 0)]], [], places) :=
  ⟨[], by kernel_rfl⟩

set_option maxRecDepth 100000 in
theorem lifted (os : Os) (started : os.Started) (H : Type) (enc : TypeId × Value → H) (F : Stop.Interp) :
    ReturnsInHanded {} Tryz.checked os 3 .any ((OpenSpec.ofChange Rows.fnExactBlobSameSpec).preRow enc Tryz.prog Tryz.f3 Rows.fnExactBlobSameRow.domain false Rows.fnExactBlobSameRow.laid) (((OpenSpec.ofChange Rows.fnExactBlobSameSpec).at F).post enc Tryz.prog Tryz.f3 false true false false) := by
  obtain ⟨places, hx⟩ := reads os enc
  refine returnsInHanded_of_row (C := Tryz.checked) (s := OpenSpec.ofChange Rows.fnExactBlobSameSpec) own started (by kernel_rfl) Tryz.func3
    (witness_row_at (enc := enc) (C := Tryz.checked) false (World.laidAll Tryz.prog os Rows.fnExactBlobSameRow.laid) #[.agg #[.slice none 0 0, .slice none 0 0, .slice none 0 0, .int .i64 0, .slice none 0 0, .int .i64 0, .slice none 0 0, .bool false], .agg #[.int .i64 0, .int .i64 0, .int .i64 0, .int .i64 0, .int .i64 0, .int .i64 0, .int .i64 0], .agg #[.int .i64 0, .int .i64 0, .int .i64 0, .int .i64 0, .int .i64 0, .int .i64 0, .int .i64 0]] (World.laidAll_os _ _ _) (by kernel_rfl) (by kernel_rfl) (by kernel_rfl)
      (OpenSpec.preRow_of_cond 8 hx (by kernel_rfl) (fun k hk => by cases hk) (by kernel_rfl) (laid_met os))) ?_
  intro W base args ds gs before hval0 hW _ _ _ hL hsh _
  have hval : ∀ (j : Nat) t v, Tryz.f3.params[j]? = some t → args[j]? = some v → Value.okWide Tryz.prog W .any base t v := hval0
  have hW' := hW
  obtain ⟨p, q, hA, hV, rfl, hfz, hnd⟩ := hW
  obtain ⟨rfl, rfl⟩ := trodVars_none hV
  have hA0 : DataW.TrodAll enc Tryz.prog W 0 (fun _ => true) true Tryz.f3.params.toList args.toList ds p := hA
  rw [Tryz.params3] at hA0 hval
  obtain ⟨v0, vs0, d0, ds0, p0, q0, hargs, rfl, rfl, h0, r0⟩ := trodAll_cons hA0
  obtain ⟨v1, vs1, d1, ds1, p1, q1, rfl, rfl, rfl, h1, r1⟩ := trodAll_cons r0
  obtain ⟨v2, vs2, d2, ds2, p2, q2, rfl, rfl, rfl, h2, r2⟩ := trodAll_cons r1
  obtain ⟨rfl, rfl, rfl⟩ := trodAll_nil r2
  obtain rfl : args = #[v0, v1, v2] := by cases args; simp_all
  obtain ⟨sx, ss, rfl, sr, sz⟩ := open_store (hval 0 28 v0 rfl rfl) h0
  obtain ⟨t0, rfl⟩ := open_tree (hval 1 32 v1 rfl rfl) h1
  obtain ⟨t1, rfl⟩ := open_tree (hval 2 32 v2 rfl rfl) h2
  refine (walk W sx ss t0 t1 sr sz (maxAt_of hsh) (tenAt_of hL.tail.tail) (errAt_of hL.tail.tail.tail.tail.tail)).mono fun e W' ⟨he, bel⟩ => ?_
  subst he
  exact ⟨_, rfl, law_post (s := Rows.fnExactBlobSameSpec) rfl (by kernel_rfl) (params_ok (by kernel_rfl)) hW' rfl rfl rfl bel⟩

theorem said : Rows.FnExactBlobSameSaid :=
  OpenClaim.holds_of_cond 3 Tryz.f3 rfl rfl rfl rfl rfl rfl rfl ⟨rfl, rfl, rfl, rfl, rfl⟩ rfl rfl rfl rfl rfl (by kernel_rfl) Tryz.func3 (by kernel_rfl)
    (of_decide_eq_true (by kernel_rfl)) (by unfold Func.isWrapper; first | (rw [if_pos (by decide +kernel)]; kernel_rfl) | (rw [if_neg (by decide +kernel)]; exact ⟨rfl, rfl⟩))
    (fun os started H enc _ F => by rw [OpenClaim.pre_eq_preRow]; exact lifted os started H enc F)

theorem plain (f : FuncId) (fn : Func) (hf : Tryz.pinned.checked.prog.funcNamed "loop.example/poolfiles/laws.FnExactBlobSame" = some f) (hfn : Tryz.pinned.checked.prog.funcs[f]? = some fn) :
    true = Tryz.pinned.checked.prog.looks [] ∧ ∀ (j : Nat) t, fn.params[j]? = some t → Tryz.pinned.checked.prog.wantsStandIn t = false := by
  obtain rfl : f = 3 := Option.some.inj ((show Tryz.prog.funcNamed "loop.example/poolfiles/laws.FnExactBlobSame" = some 3 by kernel_rfl).symm.trans hf) |>.symm
  obtain rfl : fn = Tryz.f3 := (Option.some.inj (Tryz.func3.symm.trans hfn)).symm
  refine ⟨by kernel_rfl, fun j t ht => ?_⟩
  have hall : (Tryz.f3.params.toList.all fun t => !(Tryz.prog.wantsStandIn t)) = true := by kernel_rfl
  have := List.all_eq_true.1 hall t (Array.mem_toList_iff.2 (Array.mem_of_getElem? ht))
  show Tryz.prog.wantsStandIn t = false
  simpa using this

theorem proved : Rows.FnExactBlobSameCardSaid :=
  Claim7.holds_tied_plain_at .later [] _ _ _ _ said (fun _ h => by cases h) (by kernel_rfl) (fun _ h => by cases h) fnExactBlobSame_row_tie rfl ⟨rfl, rfl⟩ (by kernel_rfl) rfl plain (by kernel_rfl)

end Go.Proofs.YtafadedacbjioaaGreatDoor.lawExactBlobSame
