/- Operations drawn. -/
import Derived.Test.YtjalboplilolkaaDoorDrawPath
import Derived.Test.YtjalboplilolkaaDoorDrawText
import Derived.Test.YtjalboplilolkaaDoorMany
import Derived.Test.YtjalboplilolkaaDoorOpText
import Derived.Test.YtjalboplilolkaaDoorOpGet
import Derived.Test.YtjalboplilolkaaDoorDrawSpoil
import Derived.Deep.CutRange
namespace Go.Proofs.YtjalboplilolkaaDoor
open Go.RowKit Go.Sort
set_option maxRecDepth 100000
set_option linter.unusedVariables false
set_option linter.unusedSimpArgs false
attribute [local go_sem ↓] Go.wp_at_zero Go.wp_at_succ

/-- The operation drawn so far lies at block b. -/
def OpAt (d : Nat) (w : World) (rb p b : Nat) (wx : World) : Prop := ∃ (kd at_ : Int) (pa dst tx : ByteArray) (q : Nat), BoxAt wx b #[.int .i64 kd, .string pa, .string dst, .int .i64 at_, .string tx] 54 ∧ pa.size ≤ 100 ∧ dst.size ≤ 100 ∧ tx.size ≤ 100 ∧ Rs wx rb (p + q) ∧ q ≤ d ∧ Kp [rb] w wx ∧ w.heap.size < b
theorem kp_rulef {rb : Nat} {W w' : World} (hk : Kp [rb] W w') : ∀ b o, b < W.heap.size → ¬ b = rb → w'.frozen? ⟨b, o, none⟩ = W.frozen? ⟨b, o, none⟩ := fun b o h1 h2 => hk.frozen h1 (by simpa using h2)
theorem lit_int2 (l : List Int) (k : Nat) (h : k < l.length) : ∃ z : Int, (l.map (Value.int .i64))[k]'(by simpa using h) = .int .i64 z := ⟨l[k], by simp⟩
def OpDr (d : Nat) (w : World) (rb p : Nat) (e : Ending) (w' : World) : Prop := ∃ (o : OpD) (q : Nat), e = .returned o.v ∧ o.path.size ≤ 100 ∧ o.dst.size ≤ 100 ∧ o.text.size ≤ 100 ∧ Rs w' rb (p + q) ∧ q ≤ d ∧ Kp [rb] w w'

/-- The world so far: the reader's block alone has changed, and the result's variable is untouched. -/
def Base (w : World) (rb : Nat) (W : World) : Prop := Kp [rb] w W ∧ BoxAt W w.heap.size #[.int .i64 0, .string ⟨#[]⟩, .string ⟨#[]⟩, .int .i64 0, .string ⟨#[]⟩] 54
theorem base_alloc {w W : World} {rb : Nat} (h : Base w rb W) (o : Obj) : Base w rb (W.alloc o) := ⟨h.1.alloc o, h.2.alloc o⟩
theorem base_drew {w W : World} {rb : Nat} (h : Base w rb W) : Base w rb W.drew := ⟨h.1.drew, h.2.drew⟩
theorem base_kp {w W W' : World} {rb : Nat} (h : Base w rb W) (hr : rb < w.heap.size) (hk : Kp [rb] W W') : Base w rb W' := ⟨h.1.trans hk, h.2.kp hk (by simp only [List.mem_singleton]; omega)⟩
theorem base_set {w W : World} {rb b o : Nat} (h : Base w rb W) (hb : w.heap.size < b) (v : Value) : Base w rb (W.setCell ⟨b, o, none⟩ v) := ⟨h.1.setCell (Or.inr (by dsimp only; omega)) v, h.2.set (by dsimp only; omega) v⟩
theorem box_new1 (w : World) (o : Obj) (cs : Array Value) (T : TypeId) : BoxAt ((w.alloc o).alloc (.cells cs T)) (w.heap.size + 1) cs T := by
  have := box_new (w.alloc o) cs T
  simpa using this
theorem rs_setO {w : World} {rb q b o : Nat} (h : Rs w rb q) (hb : rb < b) (v : Value) : Rs (w.setCell ⟨b, o, none⟩ v) rb q := h.kp ((Kp.refl [b] w).setCell (Or.inl (by simp)) v) (fun k hk => by rw [List.mem_singleton.1 hk]; exact hb)
theorem box_five {w : World} {b : Nat} {T : TypeId} (h : BoxAt w b #[.int .i64 0, .string ⟨#[]⟩, .string ⟨#[]⟩, .int .i64 0, .string ⟨#[]⟩] T) (v0 v1 v2 v3 v4 : Value) : BoxAt (((((w.setCell ⟨b, 0, none⟩ v0).setCell ⟨b, 1, none⟩ v1).setCell ⟨b, 2, none⟩ v2).setCell ⟨b, 3, none⟩ v3).setCell ⟨b, 4, none⟩ v4) b #[v0, v1, v2, v3, v4] T :=
  box_putO (box_putO (box_putO (box_putO (box_putO h 0 v0) 1 v1) 2 v2) 3 v3) 4 v4
theorem opAt_in {d : Nat} {w W : World} {rb p b q : Nat} {kd at_ : Int} {pa dst tx : ByteArray} (hB : Base w rb W) (hX : BoxAt W b #[.int .i64 kd, .string pa, .string dst, .int .i64 at_, .string tx] 54) (hR : Rs W rb (p + q)) (hb : w.heap.size < b) (hq : q ≤ d) (h1 : pa.size ≤ 100) (h2 : dst.size ≤ 100) (h3 : tx.size ≤ 100) : Hid (OpAt d w rb p b W) ∧ Hid (BoxAt W w.heap.size #[.int .i64 0, .string ⟨#[]⟩, .string ⟨#[]⟩, .int .i64 0, .string ⟨#[]⟩] 54) :=
  ⟨Lib.hid ⟨kd, at_, pa, dst, tx, q, hX, h1, h2, h3, hR, hq, hB.1, hb⟩, Lib.hid hB.2⟩

theorem rsE {W : World} {rb a b : Nat} (h : Rs W rb a) (e : a = b) : Rs W rb b := e ▸ h
theorem lit_intl (l : List Int) (k n : Nat) (h : k < n) (hl : l.length = n) : ∃ z : Int, (l.map (Value.int .i64))[k]'(by simp; omega) = .int .i64 z := ⟨l[k]'(by omega), by simp⟩
/-- The operation lies at b; its parts are short. -/
def OpB (w : World) (rb b : Nat) (W : World) : Prop := ∃ (kd at_ : Int) (pa dst tx : ByteArray), BoxAt W b #[.int .i64 kd, .string pa, .string dst, .int .i64 at_, .string tx] 54 ∧ pa.size ≤ 100 ∧ dst.size ≤ 100 ∧ tx.size ≤ 100 ∧ Base w rb W ∧ w.heap.size < b ∧ rb < b
theorem opB_of {d : Nat} {w W : World} {rb p b : Nat} (hO : OpAt d w rb p b W) (hl : rb < w.heap.size) (hz : BoxAt W w.heap.size #[.int .i64 0, .string ⟨#[]⟩, .string ⟨#[]⟩, .int .i64 0, .string ⟨#[]⟩] 54) : OpB w rb b W ∧ ∃ q, q ≤ d ∧ Rs W rb (p + q) := by
  obtain ⟨kd, at_, pa, dst, tx, q, hX, h1, h2, h3, hR, hq, hK, hb⟩ := hO
  exact ⟨⟨kd, at_, pa, dst, tx, hX, h1, h2, h3, ⟨hK, hz⟩, hb, by omega⟩, q, hq, hR⟩
section
variable {w W : World} {rb b : Nat}
theorem opB_alloc (h : OpB w rb b W) (o : Obj) : OpB w rb b (W.alloc o) := by
  obtain ⟨kd, at_, pa, dst, tx, hX, h1, h2, h3, hB, hb, hr⟩ := h
  exact ⟨kd, at_, pa, dst, tx, hX.alloc o, h1, h2, h3, base_alloc hB o, hb, hr⟩
theorem opB_drew (h : OpB w rb b W) : OpB w rb b W.drew := by
  obtain ⟨kd, at_, pa, dst, tx, hX, h1, h2, h3, hB, hb, hr⟩ := h
  exact ⟨kd, at_, pa, dst, tx, hX.drew, h1, h2, h3, base_drew hB, hb, hr⟩
theorem opB_kp {W' : World} (h : OpB w rb b W) (hl : rb < w.heap.size) (hk : Kp [rb] W W') : OpB w rb b W' := by
  obtain ⟨kd, at_, pa, dst, tx, hX, h1, h2, h3, hB, hb, hr⟩ := h
  exact ⟨kd, at_, pa, dst, tx, hX.kp hk (by simp only [List.mem_singleton]; omega), h1, h2, h3, base_kp hB hl hk, hb, hr⟩
theorem opB_0 (h : OpB w rb b W) (z : Int) : OpB w rb b (W.setCell ⟨b, 0, none⟩ (.int .i64 z)) := by
  obtain ⟨kd, at_, pa, dst, tx, hX, h1, h2, h3, hB, hb, hr⟩ := h
  exact ⟨z, at_, pa, dst, tx, box_putO hX 0 _, h1, h2, h3, base_set hB hb _, hb, hr⟩
theorem opB_3 (h : OpB w rb b W) (z : Int) : OpB w rb b (W.setCell ⟨b, 3, none⟩ (.int .i64 z)) := by
  obtain ⟨kd, at_, pa, dst, tx, hX, h1, h2, h3, hB, hb, hr⟩ := h
  exact ⟨kd, z, pa, dst, tx, box_putO hX 3 _, h1, h2, h3, base_set hB hb _, hb, hr⟩
theorem opB_2 (h : OpB w rb b W) (s : ByteArray) (hs : s.size ≤ 100) : OpB w rb b (W.setCell ⟨b, 2, none⟩ (.string s)) := by
  obtain ⟨kd, at_, pa, dst, tx, hX, h1, h2, h3, hB, hb, hr⟩ := h
  exact ⟨kd, at_, pa, s, tx, box_putO hX 2 _, h1, hs, h3, base_set hB hb _, hb, hr⟩
theorem opB_4 (h : OpB w rb b W) (s : ByteArray) (hs : s.size ≤ 100) : OpB w rb b (W.setCell ⟨b, 4, none⟩ (.string s)) := by
  obtain ⟨kd, at_, pa, dst, tx, hX, h1, h2, h3, hB, hb, hr⟩ := h
  exact ⟨kd, at_, pa, dst, s, box_putO hX 4 _, h1, h2, hs, base_set hB hb _, hb, hr⟩
end
def OpQ (d : Nat) (w : World) (rb p b : Nat) (W : World) : Prop := OpB w rb b W ∧ ∃ q, q ≤ d ∧ Rs W rb (p + q)
theorem opQ_in {d : Nat} {w W : World} {rb p b : Nat} (q : Nat) (h : OpB w rb b W) (hr : Rs W rb (p + q)) (hq : q ≤ d) : Hid (OpQ d w rb p b W) := Lib.hid ⟨h, q, hq, hr⟩

set_option maxHeartbeats 8000000 in
theorem l92Op_any (w : World) (rb p : Nat) (h : Rs w rb p) (hp : p ≤ 900000) : Calls Tryd.prog 74 #[.pointer (some ⟨rb, 0, none⟩)] w (OpDr 200 w rb p) := by
  have hr0 := h
  clear h
  have hl := hr0.lt
  have BX := Lib.hid (box_new w #[.int .i64 0, .string ⟨#[]⟩, .string ⟨#[]⟩, .int .i64 0, .string ⟨#[]⟩] 54)
  have hr := Rs.alloc hr0 (.cells #[.int .i64 0, .string ⟨#[]⟩, .string ⟨#[]⟩, .int .i64 0, .string ⟨#[]⟩] 54)
  have K0 := Lib.hid ((Kp.refl [rb] w).alloc (.cells #[.int .i64 0, .string ⟨#[]⟩, .string ⟨#[]⟩, .int .i64 0, .string ⟨#[]⟩] 54))
  obtain ⟨W0, hW0⟩ : ∃ W0, w.alloc (.cells #[.int .i64 0, .string ⟨#[]⟩, .string ⟨#[]⟩, .int .i64 0, .string ⟨#[]⟩] 54) = W0 := ⟨_, rfl⟩
  rw [hW0] at BX hr K0
  have hlw : w.heap.size < W0.heap.size := BX.out.lt
  have hlr : rb < W0.heap.size := hr.lt
  have B0 : Hid (Base w rb W0) := Lib.hid ⟨K0.out, BX.out⟩
  go_enter Tryd.func74, Tryd.ntmps74
  go_wp2_with fail
  --C1
  go_cut [3] from 4 to 11 (fun a wx => ∃ b, a = .pointer (some ⟨b, 0, none⟩) ∧ Hid (OpAt 4 w rb p b wx) ∧ Hid (BoxAt wx w.heap.size #[.int .i64 0, .string ⟨#[]⟩, .string ⟨#[]⟩, .int .i64 0, .string ⟨#[]⟩] 54))
  case first =>
    have n1 : ¬ W0.heap.size = rb := by omega
    have n2 : ¬ W0.heap.size + 1 = rb := by omega
    go_region_with (first
      | (go_at_call 44; refine Calls.mono (pick_nat _ rb p 12 ?h0 ?h1 ?h2 ?h3) ?_; (case h0 => first | exact Rs.drew (Rs.alloc hr _) | exact Rs.drew hr | exact Rs.drew (Rs.alloc (Rs.alloc hr _) _)); (case h1 => omega); (case h2 => omega); (case h3 => omega); rintro e w2 ⟨k, rfl, hk0, hr2, hk2⟩; have hru2 := hk2.rule; have hrf2 := kp_rulef hk2; have hsz2 := hk2.size; (try simp only [World.size_alloc, World.size_drew, Nat.add_one_le_iff] at hsz2); have hk12 : k < 12 := (by simpa using hk0); obtain ⟨z, hz⟩ := lit_int2 [1, 1, 2, 2, 3, 3, 3, 4, 5, 6, 7, 7] k hk12; simp only [List.map] at hz; have hk1 : (k : Int) < 12 := (by omega); have hn2 : ¬ w2.heap.size = rb := (by omega); have hn2' : ¬ w2.heap.size + 1 = rb := (by omega); (try have ha2 : W0.heap.size < w2.heap.size := (by omega)); (try have hb2 : W0.heap.size + 1 < w2.heap.size := (by omega)); have HK2 := Lib.hid hk2; clear hk0 hk2)
      | (go_at_call 101; refine Calls.mono (l92Path_any _ rb (p + 1) ?h0 ?h1) ?_; (case h0 => first | exact hr2 | exact Rs.alloc hr2 _ | exact Rs.alloc (Rs.alloc hr2 _) _); (case h1 => omega); rintro e w3 ⟨pa, q3, rfl, hpa, hr3, hq3, hk3⟩; have hru3 := hk3.rule; have hrf3 := kp_rulef hk3; have hsz3 := hk3.size; (try simp only [World.size_alloc, World.size_drew, Nat.add_one_le_iff] at hsz3); (try have ha3 : W0.heap.size < w3.heap.size := (by omega)); (try have hb3 : W0.heap.size + 1 < w3.heap.size := (by omega)); (try have hc3 : w2.heap.size < w3.heap.size := (by omega)); (try have hd3 : w2.heap.size + 1 < w3.heap.size := (by omega)); have hn3 : ¬ w3.heap.size = rb := (by omega); have HK3 := Lib.hid hk3; clear hk3))
    all_goals (
      have hr4 : Rs w3 rb (p + (1 + q3)) := (by rw [← Nat.add_assoc]; exact hr3)
      go_wp2_with fail
      go_meet
      case rel =>
        refine ⟨_, rfl, ?_⟩
        have BW : Base w rb w3 := (by
          repeat (with_reducible first | exact B0.out | refine base_kp ?_ hl HK3.out | refine base_kp ?_ hl HK2.out | refine base_alloc ?_ _ | refine base_drew ?_))
        refine opAt_in (kd := z) (at_ := 0) (pa := pa) (dst := ⟨#[]⟩) (tx := ⟨#[]⟩) (q := 1 + q3) ?_ ?_ ?_ ?_ (by omega) (Nat.le_trans hpa (by decide)) (by decide) (by decide)
        · repeat (with_reducible first | exact BW | refine base_alloc ?_ _ | refine base_set ?_ (by omega) _)
        · repeat (with_reducible first | exact box_new _ _ _ | exact box_new1 _ _ _ _ | refine box_five ?_ _ _ _ _ _ | refine BoxAt.kp ?_ HK3.out (by simp only [List.mem_singleton]; omega) | refine BoxAt.kp ?_ HK2.out (by simp only [List.mem_singleton]; omega) | refine BoxAt.alloc ?_ _ | refine BoxAt.drew ?_)
        · repeat (with_reducible first | exact hr4 | refine Rs.alloc ?_ _ | refine rs_setO ?_ (by omega) _)
        · omega)
  case rest =>
    obtain ⟨b, rfl, hO, hZ⟩ := hcut
    have hOQ := opB_of hO.out hl hZ.out
    clear hO hZ hr
    rename_i K1 hK1
    refine hK1 _ _ ?_
    refine wp_seq_k (fun K2 hK2 => ?_)
    go_cut [3] from 4 to 38 (fun a wx => a = .pointer (some ⟨b, 0, none⟩) ∧ Hid (OpQ 100 w rb p b wx))
    case first =>
      obtain ⟨HOB, q, hq, hr⟩ := hOQ
      have hrb : rb < b := (by obtain ⟨_, _, _, _, _, _, _, _, _, _, _, h⟩ := HOB; exact h)
      obtain ⟨kd, at_, pa, dst, tx, hX, h1, h2, h3, hB, hb, _⟩ := id HOB
      have S0 := Lib.hid HOB
      have xc := hX.cell
      have xf := hX.froz
      have xl := hX.lt
      have zc := hB.2.cell
      have zf := hB.2.froz
      have zl := hB.2.lt
      have hnb : ¬ b = rb := by omega
      have hlrc : rb < wc.heap.size := hr.lt
      have xl1 : b < wc.heap.size + 1 := by omega
      have hnw : ¬ wc.heap.size = rb := by omega
      have hnbw : ¬ wc.heap.size = b := by omega
      have hnbw2 : ¬ b = wc.heap.size := by omega
      clear HOB hX hB
      go_wp2_with (first
      | (go_at_call 44; refine Calls.mono (pick_nat _ rb (p + q) _ ?h0 ?h1 ?h2 ?h3) ?_; (case h0 => (repeat (with_reducible first | exact hr | refine Rs.alloc ?_ _ | refine Rs.drew ?_ | refine rs_setO ?_ hrb _))); (case h1 => omega); (case h2 => omega); (case h3 => omega); rintro e w2 ⟨k, rfl, hk0, hr2, hk2⟩; (first | (have hkm : k < 8 := (by simpa using hk0); have hk1 : (k : Int) < 8 := (by omega); obtain ⟨z, hz⟩ := lit_intl [0, 1, 5, 12, 13, 25, 60, 192] k 8 hkm rfl; simp only [List.map] at hz) | (have hkm : k < 9 := (by simpa using hk0); have hk1 : (k : Int) < 9 := (by omega); obtain ⟨z, hz⟩ := lit_intl [0, 1, 5, 12, 13, 24, 40, 100, 180] k 9 hkm rfl; simp only [List.map] at hz)); have hru2 := hk2.rule; have hrf2 := kp_rulef hk2; have hsz2 := hk2.size; (try simp only [World.size_alloc, World.size_drew, World.size_setCell, Nat.add_one_le_iff] at hsz2); have hbl2 : b < w2.heap.size := (by omega); (try have hlt2 : wc.heap.size < w2.heap.size := (by omega)); (try have hlu2 : wc.heap.size < w2.heap.size := (by omega)); (try have hn2 : ¬ w2.heap.size = rb := (by omega)); (try have hm2 : ¬ w2.heap.size = b := (by omega)); have HK2 := Lib.hid hk2; clear hk2; clear hk0)
      | (go_at_call 80; refine Calls.mono (l91Text_any _ rb (p + q + 1) 24 ?h0 ?h1 ?h2) ?_; (case h0 => (repeat (with_reducible first | exact hr2 | refine Rs.alloc ?_ _ | refine Rs.drew ?_ | refine rs_setO ?_ hrb _))); (case h1 => omega); (case h2 => omega); rintro e w4 ⟨tx4, q4, rfl, htx, hr4, hq4, hk4⟩; have htx100 : tx4.size ≤ 100 := (by omega); have hru4 := hk4.rule; have hrf4 := kp_rulef hk4; have hsz4 := hk4.size; (try simp only [World.size_alloc, World.size_drew, World.size_setCell, Nat.add_one_le_iff] at hsz4); have hbl4 : b < w4.heap.size := (by omega); (try have hlt4 : wc.heap.size < w4.heap.size := (by omega)); (try have hlu4 : w2.heap.size < w4.heap.size := (by omega)); (try have hn4 : ¬ w4.heap.size = rb := (by omega)); (try have hm4 : ¬ w4.heap.size = b := (by omega)); have HK4 := Lib.hid hk4; clear hk4)
      | (go_at_call 101; refine Calls.mono (l92Path_any _ rb (p + q) ?h0 ?h1) ?_; (case h0 => (repeat (with_reducible first | exact hr | refine Rs.alloc ?_ _ | refine Rs.drew ?_ | refine rs_setO ?_ hrb _))); (case h1 => omega); rintro e w4 ⟨tx4, q4, rfl, htx, hr4, hq4, hk4⟩; have htx100 : tx4.size ≤ 100 := (by omega); have hru4 := hk4.rule; have hrf4 := kp_rulef hk4; have hsz4 := hk4.size; (try simp only [World.size_alloc, World.size_drew, World.size_setCell, Nat.add_one_le_iff] at hsz4); have hbl4 : b < w4.heap.size := (by omega); (try have hlt4 : wc.heap.size < w4.heap.size := (by omega)); (try have hlu4 : wc.heap.size < w4.heap.size := (by omega)); (try have hn4 : ¬ w4.heap.size = rb := (by omega)); (try have hm4 : ¬ w4.heap.size = b := (by omega)); have HK4 := Lib.hid hk4; clear hk4))
      all_goals (go_meet; case rel => exact ⟨rfl, by (first | (refine opQ_in (q + 1 + q4) ?_ (rsE (a := p + q + 1 + q4) ?_ ?_) ?_; (focus ((repeat (with_reducible first | exact S0.out | refine opB_alloc ?_ _ | refine opB_drew ?_ | refine opB_3 ?_ _ | refine opB_0 ?_ _ | refine opB_4 ?_ _ (by omega) | refine opB_2 ?_ _ (by omega) | refine opB_kp ?_ hl HK4.out | refine opB_kp ?_ hl HK2.out | refine opB_kp ?_ hl HK5.out)); done)); (focus ((repeat (with_reducible first | exact hr4 | refine Rs.alloc ?_ _ | refine Rs.drew ?_ | refine rs_setO ?_ hrb _)); done)); all_goals omega) | (refine opQ_in (q + q4) ?_ (rsE (a := p + q + q4) ?_ ?_) ?_; (focus ((repeat (with_reducible first | exact S0.out | refine opB_alloc ?_ _ | refine opB_drew ?_ | refine opB_3 ?_ _ | refine opB_0 ?_ _ | refine opB_4 ?_ _ (by omega) | refine opB_2 ?_ _ (by omega) | refine opB_kp ?_ hl HK4.out | refine opB_kp ?_ hl HK2.out | refine opB_kp ?_ hl HK5.out)); done)); (focus ((repeat (with_reducible first | exact hr4 | refine Rs.alloc ?_ _ | refine Rs.drew ?_ | refine rs_setO ?_ hrb _)); done)); all_goals omega) | (refine opQ_in (q + 1) ?_ (rsE (a := p + q + 1) ?_ ?_) ?_; (focus ((repeat (with_reducible first | exact S0.out | refine opB_alloc ?_ _ | refine opB_drew ?_ | refine opB_3 ?_ _ | refine opB_0 ?_ _ | refine opB_4 ?_ _ (by omega) | refine opB_2 ?_ _ (by omega) | refine opB_kp ?_ hl HK4.out | refine opB_kp ?_ hl HK2.out | refine opB_kp ?_ hl HK5.out)); done)); (focus ((repeat (with_reducible first | exact hr2 | refine Rs.alloc ?_ _ | refine Rs.drew ?_ | refine rs_setO ?_ hrb _)); done)); all_goals omega) | (refine opQ_in (q) ?_ (rsE (a := p + q) ?_ ?_) ?_; (focus ((repeat (with_reducible first | exact S0.out | refine opB_alloc ?_ _ | refine opB_drew ?_ | refine opB_3 ?_ _ | refine opB_0 ?_ _ | refine opB_4 ?_ _ (by omega) | refine opB_2 ?_ _ (by omega) | refine opB_kp ?_ hl HK4.out | refine opB_kp ?_ hl HK2.out | refine opB_kp ?_ hl HK5.out)); done)); (focus ((repeat (with_reducible first | exact hr | refine Rs.alloc ?_ _ | refine Rs.drew ?_ | refine rs_setO ?_ hrb _)); done)); all_goals omega))⟩)
    case rest =>
      clear hOQ
      obtain ⟨rfl, hO⟩ := hcut
      have hOQ := hO.out
      clear hO
      refine hK2 _ _ ?_
      refine wp_seq_k (fun K3 hK3 => ?_)
      go_cut [3] from 39 to 68 (fun a wx => a = .pointer (some ⟨b, 0, none⟩) ∧ Hid (OpQ 190 w rb p b wx))
      case first =>
        obtain ⟨HOB, q, hq, hr⟩ := hOQ
        have hrb : rb < b := (by obtain ⟨_, _, _, _, _, _, _, _, _, _, _, h⟩ := HOB; exact h)
        obtain ⟨kd, at_, pa, dst, tx, hX, h1, h2, h3, hB, hb, _⟩ := id HOB
        have S0 := Lib.hid HOB
        have xc := hX.cell
        have xf := hX.froz
        have xl := hX.lt
        have zc := hB.2.cell
        have zf := hB.2.froz
        have zl := hB.2.lt
        have hnb : ¬ b = rb := by omega
        have hlrc : rb < wc.heap.size := hr.lt
        have xl1 : b < wc.heap.size + 1 := by omega
        have hnw : ¬ wc.heap.size = rb := by omega
        have hnbw : ¬ wc.heap.size = b := by omega
        have hnbw2 : ¬ b = wc.heap.size := by omega
        clear HOB hX hB
        go_wp2_with (first
      | (have _t := hr5; go_at_call 44; refine Calls.mono (pick_nat _ rb (p + q + 1) _ ?h0 ?h1 ?h2 ?h3) ?_; (case h0 => (repeat (with_reducible first | exact hr5 | refine Rs.alloc ?_ _ | refine Rs.drew ?_ | refine rs_setO ?_ hrb _))); (case h1 => omega); (case h2 => omega); (case h3 => omega); rintro e w2 ⟨k, rfl, hk0, hr2, hk2⟩; (first | (have hkm : k < 2 := (by simpa using hk0); obtain ⟨n, hn⟩ : ∃ n : Nat, n = 24 + k := ⟨_, rfl⟩; have hwn : IntKind.i64.wrap (24 + (k : Int)) = (n : Int) := (by rw [IntWalk.i64_in _ (by omega)]; omega); have hn30 : n ≤ 30 := (by omega); clear hn) | (have hkm : k < 3 := (by simpa using hk0); have hk1 : (k : Int) < 3 := (by omega); obtain ⟨z, hz⟩ := lit_intl [-1, 193, 192] k 3 hkm rfl; simp only [List.map] at hz) | (have hkm : k < 4 := (by simpa using hk0); have hk1 : (k : Int) < 4 := (by omega); obtain ⟨z, hz⟩ := lit_intl [0, 8, -1, 3] k 4 hkm rfl; simp only [List.map] at hz)); have hru2 := hk2.rule; have hrf2 := kp_rulef hk2; have hsz2 := hk2.size; (try simp only [World.size_alloc, World.size_drew, World.size_setCell, Nat.add_one_le_iff] at hsz2); have hbl2 : b < w2.heap.size := (by omega); (try have hlt2 : wc.heap.size < w2.heap.size := (by omega)); (try have hlu2 : w5.heap.size < w2.heap.size := (by omega)); (try have hn2 : ¬ w2.heap.size = rb := (by omega)); (try have hm2 : ¬ w2.heap.size = b := (by omega)); have HK2 := Lib.hid hk2; clear hk2; clear hk0)
      | (go_at_call 44; refine Calls.mono (pick_nat _ rb (p + q) _ ?h0 ?h1 ?h2 ?h3) ?_; (case h0 => (repeat (with_reducible first | exact hr | refine Rs.alloc ?_ _ | refine Rs.drew ?_ | refine rs_setO ?_ hrb _))); (case h1 => omega); (case h2 => omega); (case h3 => omega); rintro e w5 ⟨j, rfl, hj0, hr5, hk5⟩; have hru5 := hk5.rule; have hrf5 := kp_rulef hk5; have hsz5 := hk5.size; (try simp only [World.size_alloc, World.size_drew, World.size_setCell, Nat.add_one_le_iff] at hsz5); have hbl5 : b < w5.heap.size := (by omega); (try have hlt5 : wc.heap.size < w5.heap.size := (by omega)); (try have hlu5 : wc.heap.size < w5.heap.size := (by omega)); (try have hn5 : ¬ w5.heap.size = rb := (by omega)); (try have hm5 : ¬ w5.heap.size = b := (by omega)); have HK5 := Lib.hid hk5; clear hk5; clear hj0)
      | (go_at_call 102; refine Calls.mono (l6Many_any ⟨#[117]⟩ n _ (by decide) (by omega)) ?_; rintro e w6 ⟨⟨tx6, rfl, htx⟩, hww⟩; subst hww; have htx1 : tx6.size ≤ 100 := (by have h117 : (⟨#[117]⟩ : ByteArray).size = 1 := rfl; rw [h117] at htx; omega); clear htx)
      | (go_at_call 101; refine Calls.mono (l92Path_any _ rb (p + q + 1) ?h0 ?h1) ?_; (case h0 => (repeat (with_reducible first | exact hr5 | refine Rs.alloc ?_ _ | refine Rs.drew ?_ | refine rs_setO ?_ hrb _))); (case h1 => omega); rintro e w4 ⟨tx4, q4, rfl, htx, hr4, hq4, hk4⟩; have htx100 : tx4.size ≤ 100 := (by omega); have hru4 := hk4.rule; have hrf4 := kp_rulef hk4; have hsz4 := hk4.size; (try simp only [World.size_alloc, World.size_drew, World.size_setCell, Nat.add_one_le_iff] at hsz4); have hbl4 : b < w4.heap.size := (by omega); (try have hlt4 : wc.heap.size < w4.heap.size := (by omega)); (try have hlu4 : w5.heap.size < w4.heap.size := (by omega)); (try have hn4 : ¬ w4.heap.size = rb := (by omega)); (try have hm4 : ¬ w4.heap.size = b := (by omega)); have HK4 := Lib.hid hk4; clear hk4))
        all_goals (go_meet; case rel => exact ⟨rfl, by (first | (refine opQ_in (q + 1 + q4) ?_ (rsE (a := p + q + 1 + q4) ?_ ?_) ?_; (focus ((repeat (with_reducible first | exact S0.out | refine opB_alloc ?_ _ | refine opB_drew ?_ | refine opB_3 ?_ _ | refine opB_0 ?_ _ | refine opB_4 ?_ _ (by omega) | refine opB_2 ?_ _ (by omega) | refine opB_kp ?_ hl HK4.out | refine opB_kp ?_ hl HK2.out | refine opB_kp ?_ hl HK5.out)); done)); (focus ((repeat (with_reducible first | exact hr4 | refine Rs.alloc ?_ _ | refine Rs.drew ?_ | refine rs_setO ?_ hrb _)); done)); all_goals omega) | (refine opQ_in (q + 1 + 1) ?_ (rsE (a := p + q + 1 + 1) ?_ ?_) ?_; (focus ((repeat (with_reducible first | exact S0.out | refine opB_alloc ?_ _ | refine opB_drew ?_ | refine opB_3 ?_ _ | refine opB_0 ?_ _ | refine opB_4 ?_ _ (by omega) | refine opB_2 ?_ _ (by omega) | refine opB_kp ?_ hl HK4.out | refine opB_kp ?_ hl HK2.out | refine opB_kp ?_ hl HK5.out)); done)); (focus ((repeat (with_reducible first | exact hr2 | refine Rs.alloc ?_ _ | refine Rs.drew ?_ | refine rs_setO ?_ hrb _)); done)); all_goals omega) | (refine opQ_in (q + 1) ?_ (rsE (a := p + q + 1) ?_ ?_) ?_; (focus ((repeat (with_reducible first | exact S0.out | refine opB_alloc ?_ _ | refine opB_drew ?_ | refine opB_3 ?_ _ | refine opB_0 ?_ _ | refine opB_4 ?_ _ (by omega) | refine opB_2 ?_ _ (by omega) | refine opB_kp ?_ hl HK4.out | refine opB_kp ?_ hl HK2.out | refine opB_kp ?_ hl HK5.out)); done)); (focus ((repeat (with_reducible first | exact hr5 | refine Rs.alloc ?_ _ | refine Rs.drew ?_ | refine rs_setO ?_ hrb _)); done)); all_goals omega))⟩)
      case rest =>
        clear hOQ
        obtain ⟨rfl, hO⟩ := hcut
        have hOQ := hO.out
        clear hO
        obtain ⟨⟨kd, at_, pa, dst, tx, hX, h1, h2, h3, hB, hb, hrb⟩, q, hq, hr⟩ := hOQ
        have xc := hX.cell
        have xf := hX.froz
        have xl := hX.lt
        have zc := hB.2.cell
        have zf := hB.2.froz
        have zl := hB.2.lt
        have hnb : ¬ b = w.heap.size := by omega
        have hnb2 : ¬ w.heap.size = b := by omega
        have HB := Lib.hid hB
        have HX := Lib.hid hX
        have HR := Lib.hid hr
        clear hB hX hr
        refine hK3 _ _ ?_
        go_wp2_with fail
        have zz := box_five HB.out.2 (.int .i64 kd) (.string pa) (.string dst) (.int .i64 at_) (.string tx)
        have z0 := zz.cell
        have z1 := zz.lt
        refine bodyPost_ret (v := .agg #[.int .i64 kd, .string pa, .string dst, .int .i64 at_, .string tx]) (by simp [results, Tryd.results74, go_sem, z0, z1]) rfl ?_
        refine ⟨⟨kd, pa, dst, at_, tx⟩, q, rfl, h1, h2, h3, ?_, by omega, ?_⟩
        · repeat (with_reducible first | exact HR.out | refine rs_setO ?_ hl _)
        · exact (Kp.setCell (Kp.setCell (Kp.setCell (Kp.setCell (Kp.setCell HB.out.1 (Or.inr (Nat.le_refl _)) _) (Or.inr (Nat.le_refl _)) _) (Or.inr (Nat.le_refl _)) _) (Or.inr (Nat.le_refl _)) _) (Or.inr (Nat.le_refl _)) _)

end Go.Proofs.YtjalboplilolkaaDoor
