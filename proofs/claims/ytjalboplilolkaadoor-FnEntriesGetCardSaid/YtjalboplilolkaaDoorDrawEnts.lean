/- Lists of entries drawn. -/
import Derived.Test.YtjalboplilolkaaDoorDrawName
import Derived.Test.YtjalboplilolkaaDoorEntAdd4
import Derived.Laws.IdiomStrings
namespace Go.Proofs.YtjalboplilolkaaDoor
open Go.RowKit
set_option linter.unusedVariables false
set_option linter.unusedSimpArgs false

theorem addFrom_length (x : Ent) : ∀ (l : List Ent) (b : Bool), (addFrom x l b).length ≤ l.length + 1
  | [], b => by cases b <;> simp [addFrom]
  | d :: r, true => by rw [addFrom_done]; omega
  | d :: r, false => by
    have h2 := addFrom_done x r
    have h3 := addFrom_length x r false
    unfold addFrom
    simp only [h2]
    (repeat' split) <;> simp <;> omega

theorem own_baseE {base : Nat} {w : World} {v : Value} {xs : List Ent} (h : Own encE 2 76 base w v xs) : ∀ k, v.ownBlock = some k → base ≤ k := by
  rcases h.2 with ⟨rfl, _⟩ | ⟨g, cap, cur, rfl, hg, _⟩
  · intro k hk; simp [Value.ownBlock] at hk
  · intro k hk; simp [Value.ownBlock] at hk; omega

/-- The list drawn so far: its row, the reader, old memory. -/
def EntAt (w : World) (rb q : Nat) (l : List Ent) (v : Value) (wr : World) : Prop := Own encE 2 76 w.heap.size wr v l ∧ (∀ x ∈ l, x.name.size ≤ 100) ∧ Rs wr rb q ∧ Kp [rb] w wr

theorem ent_pick {w wr w' : World} {rb q q' : Nat} {l : List Ent} {v : Value} (hlt : rb < w.heap.size) (h : EntAt w rb q l v wr) (hr : Rs w' rb q') (hk : Kp [rb] wr w') : EntAt w rb q' l v w' :=
  ⟨h.1.kp hk (fun b hb e => by simp at hb; subst hb; have := own_baseE h.1 _ e; omega), h.2.1, hr, h.2.2.2.trans hk⟩
theorem ent_alloc {w wr : World} {rb q : Nat} {l : List Ent} {v : Value} (h : EntAt w rb q l v wr) (o : Obj) : EntAt w rb q l v (wr.alloc o) := ⟨own_alloc h.1 o, h.2.1, Rs.alloc h.2.2.1 o, h.2.2.2.alloc o⟩
theorem ent_below {w wr w' : World} {rb q : Nat} {l : List Ent} {v : Value} (h : EntAt w rb q l v wr) (hB : Below wr.heap.size wr w') : EntAt w rb q l v w' := ⟨h.1.below hB, h.2.1, h.2.2.1.below hB, h.2.2.2.trans ((Kp.of_below hB).all _)⟩
theorem ent_new {w wr w' : World} {rb q : Nat} {l m : List Ent} {v v' : Value} (h : EntAt w rb q l v wr) (ho : Own encE 2 76 wr.heap.size w' v' m) (hm : ∀ x ∈ m, x.name.size ≤ 100) (hB : Below wr.heap.size wr w') : EntAt w rb q m v' w' := ⟨ho.more h.2.2.2.size, hm, (ent_below h hB).2.2.1, (ent_below h hB).2.2.2⟩
theorem ent_app {w wr w' : World} {rb q : Nat} {l m : List Ent} {v v' : Value} (hlt : rb < w.heap.size) (h : EntAt w rb q l v wr) (ho : Own encE 2 76 w.heap.size w' v' m) (hm : ∀ x ∈ m, x.name.size ≤ 100) (hg : wr.grownBy w' v.ownBlock) : EntAt w rb q m v' w' := by
  have Bl := (Below.refl w.heap.size wr).grown hg h.2.2.2.size (own_baseE h.1)
  exact ⟨ho, hm, Rs.keep h.2.2.1 Bl.size (fun k hk => Bl.block k (by omega)), ⟨Bl.os.trans h.2.2.2.os, Bl.tape.trans h.2.2.2.tape, Bl.output.trans h.2.2.2.output, Nat.le_trans h.2.2.2.size Bl.size, fun k hk he => (Bl.block k hk).trans (h.2.2.2.block k hk he)⟩⟩

def EntsD (n d : Nat) (w : World) (rb p : Nat) (e : Ending) (w' : World) : Prop := ∃ (v : Value) (l : List Ent) (q : Nat), e = .returned v ∧ l.length ≤ n ∧ q ≤ d ∧ EntAt w rb (p + q) l v w'

theorem append_size (a b : ByteArray) : (a ++ b).size = a.size + b.size := ByteArray.size_append
def lenW : Value → Nat
  | .slice _ k _ => k
  | _ => 0

theorem conv_two (w : World) (z : Int) (b : UInt8) (h : z = (b.toNat : Int)) :
    (convert 22 9 (.slice (some ⟨w.heap.size, 0, none⟩) 2 2)).run Tryd.prog (w.alloc (.cells #[.int .u8 z, .int .u8 113] 5)) = .ok (.string ⟨#[b, 113]⟩) (w.alloc (.cells #[.int .u8 z, .int .u8 113] 5)) :=
  run_convert_bytes_back (P := Tryd.prog) (w.alloc (.cells #[.int .u8 z, .int .u8 113] 5)) 22 9 5 ⟨w.heap.size, 0, none⟩ 2 [b, 113] Tryd.underlying22 Tryd.underlying5 Tryd.underlying9 (fun j hj => by
    rw [addr_add]
    unfold World.cell?
    simp only [heap_alloc_new]
    rcases j with _ | _ | j
    · simp [h]
    · simp
    · simp at hj; omega)

set_option maxHeartbeats 600000 in
theorem l92Entries_any (w : World) (rb p : Nat) (h : Rs w rb p) (hp : p ≤ 100000) :
    Calls Tryd.prog 43 #[.pointer (some ⟨rb, 0, none⟩)] w (EntsD 13 100 w rb p) := by
  have hr := h
  clear h
  have hl := hr.lt
  go_enter Tryd.func43, Tryd.ntmps43
  go_wp2_with fail
  refine Calls.mono (pick_nat _ _ _ _ (Rs.alloc hr _) (by omega) (by omega) (by omega)) ?_
  rintro e w1 ⟨m, rfl, hm0, hr1, hk1⟩
  have hm : m ≤ 6 := by omega
  have T1 := Lib.hid (ent_pick hl (show EntAt w rb p [] (.slice (some ⟨w.heap.size, 0, none⟩) 0 0) (w.alloc (.cells #[] 76)) from ⟨Own.empty (Nat.le_refl _), (fun x hx => by cases hx), Rs.alloc hr _, (Kp.refl _ _).alloc _⟩) hr1 hk1)
  clear hk1 hm0 hr1
  go_wp2_with fail
  go_loopw [3, 4] (fun v i wr => ∃ (k q : Nat) (l : List Ent), i = .int .i64 k ∧ k ≤ 6 ∧ l.length + k ≤ 6 ∧ q + 5 * k ≤ 31 ∧ Hid (EntAt w rb (p + q) l v wr)) (fun v i _ => (intOf i).toNat)
  case atStart => exact ⟨m, 1, [], rfl, hm, by simp; omega, by omega, T1⟩
  case round =>
    clear T1
    obtain ⟨k, q, l, rfl, hk, hlk, hq, HT⟩ := hrel
    obtain ⟨A, cap, rfl, hc1, hc2, _, _⟩ := HT.out.1.form
    by_cases hk0 : 0 < k
    · go_wp2_with fail
      refine Calls.mono (l92Name_any _ rb (p + q) HT.out.2.2.1 (by omega)) ?_
      rintro e w2 ⟨s, q2, rfl, hs, hr2, hq2, hk2⟩
      have T2 := Lib.hid (ent_pick hl HT.out hr2 hk2)
      clear hr2 hk2 HT
      go_wp2_with fail
      refine Calls.mono (pick_nat _ rb (p + q + q2) _ (Rs.alloc T2.out.2.2.1 _) (by omega) (by omega) (by omega)) ?_
      rintro e w3 ⟨j, rfl, hj, hr3, hk3⟩
      have T3 := Lib.hid (ent_pick hl (ent_alloc T2.out _) hr3 hk3)
      have hru := hk3.rule
      have hsz := hk3.size
      have hrl : rb < w2.heap.size := T2.out.2.2.1.lt
      have hne : ¬ w2.heap.size = rb := by omega
      simp only [World.size_alloc, Nat.add_one_le_iff] at hsz
      obtain ⟨s', hs', hss'⟩ := lit_str 5 [⟨#[]⟩, ⟨#[120]⟩, ⟨#[121]⟩] (by decide) j hj
      simp only [List.map] at hs'
      have hj1 : (j : Int) < 3 := by simp at hj; omega
      have hcl : w3.cell? ⟨w2.heap.size, j, none⟩ = some (.string s') := by
        rw [hru _ _ (by simp) hne]
        unfold World.cell?
        simp only [heap_alloc_new]
        simpa using hs'
      have hnz : (s ++ s').size ≤ 10 := by rw [append_size]; omega
      clear hj hk3 hr3 hru hs' T2
      obtain ⟨A, cap, hA, hc1, hc2, _, hrd⟩ := T3.out.1.form
      cases hA
      have HR3 := Lib.hid hrd
      have HA := Lib.hid (l12At_any w3 _ _ l (s ++ s') HR3.out hc1 hc2)
      have HN := Lib.hid (specNameOk_any (s ++ s') w3 (by omega))
      have HAdd := Lib.hid (fun (w : World) (id : Int) (h : RdT encE 2 w A l) => l12Add_any w A cap l ⟨s ++ s', id⟩ h hc1 hc2 (by omega))
      have hmem : ∀ id, ∀ x ∈ addFrom ⟨s ++ s', id⟩ l false, x.name.size ≤ 100 := fun id x hx => by
        rcases addFrom_mem _ _ _ _ hx with rfl | hx
        · dsimp only; omega
        · exact T3.out.2.1 x hx
      have hlen : ∀ id, (addFrom ⟨s ++ s', id⟩ l false).length ≤ l.length + 1 := fun id => addFrom_length _ _ _
      have HM := Lib.hid hmem
      have HL := Lib.hid hlen
      clear hmem hlen hrd
      dsimp only at HAdd
      by_cases hat : atOf l (s ++ s') < 0
      · generalize atOf l (s ++ s') = at' at *
        cases hnb : nameB (s ++ s')
        · rw [hnb] at HN
          go_wp2_with fail
          refine Calls.mono (HA.out) ?_
          rintro e w' ⟨rfl, rfl⟩
          go_wp2_with fail
          refine Calls.mono (HN.out) ?_
          rintro e w' ⟨rfl, rfl⟩
          go_wp2_with fail
          go_roundw
          case rel => exact ⟨k - 1, q + q2 + 1, l, by go_num, by omega, by omega, by omega, (by have := T3.out; rw [show p + (q + q2 + 1) = p + q + q2 + 1 by omega]; exact this)⟩
          case measure => simp [intOf]; omega
        · rw [hnb] at HN
          go_wp2_with fail
          refine Calls.mono (HA.out) ?_
          rintro e w' ⟨rfl, rfl⟩
          go_wp2_with fail
          refine Calls.mono (HN.out) ?_
          rintro e w' ⟨rfl, rfl⟩
          go_wp2_with fail
          refine Calls.mono (pick_nat _ rb (p + q + q2 + 1) _ T3.out.2.2.1 (by omega) (by omega) (by omega)) ?_
          rintro e w4 ⟨j4, rfl, hj4, hr4, hk4⟩
          have hj4' : j4 < 15 := by simpa using hj4
          have T4 := Lib.hid (ent_pick hl T3.out hr4 hk4)
          obtain ⟨A', cap', hA', _, _, _, hrd4⟩ := T4.out.1.form
          cases hA'
          have HR4 := Lib.hid hrd4
          clear hr4 hk4 hrd4 hj4
          go_wp2_with fail
          refine Calls.mono (HAdd.out w4 _ HR4.out) ?_
          rintro e w5 ⟨v5, rfl, hO5, hB5⟩
          have T5 := Lib.hid (ent_new T4.out hO5 (HM.out _) hB5)
          have hL5 := HL.out (1 + (j4 : Int))
          clear hO5 hB5
          go_wp2_with fail
          go_roundw
          case rel => exact ⟨k - 1, q + q2 + 2, _, by go_num, by omega, Nat.le_trans (Nat.add_le_add_right hL5 _) (by omega), by omega, (by have := T5.out; rw [show p + (q + q2 + 2) = p + q + q2 + 1 + 1 by omega]; exact this)⟩
          case measure => simp [intOf]; omega
      · have hat' : ¬ atOf l (s ++ s') < 0 := hat
        generalize atOf l (s ++ s') = at' at *
        go_wp2_with fail
        refine Calls.mono (HA.out) ?_
        rintro e w' ⟨rfl, rfl⟩
        go_wp2_with fail
        go_roundw
        case rel => exact ⟨k - 1, q + q2 + 1, l, by go_num, by omega, by omega, by omega, (by have := T3.out; rw [show p + (q + q2 + 1) = p + q + q2 + 1 by omega]; exact this)⟩
        case measure => simp [intOf]; omega
    · obtain rfl : k = 0 := by omega
      have hl6 : l.length ≤ 6 := by omega
      go_wp2_with fail
      refine Calls.mono (pick_nat _ rb (p + q) _ HT.out.2.2.1 (by omega) (by omega) (by omega)) ?_
      rintro e w2 ⟨j, rfl, hj, hr2, hk2⟩
      have T2 := Lib.hid (ent_pick hl HT.out hr2 hk2)
      clear hr2 hk2 HT hj
      by_cases hj0 : ((j : Int) == 0) = true
      · go_wp2_with fail
        refine Calls.mono (l92Name_any _ rb (p + q + 1) T2.out.2.2.1 (by omega)) ?_
        rintro e w3 ⟨s, q3, rfl, hs, hr3, hq3, hk3⟩
        have T3 := Lib.hid (ent_pick hl T2.out hr3 hk3)
        clear hr3 hk3 T2
        go_wp2_with fail
        refine Calls.mono (pick_nat _ rb (p + q + 1 + q3) _ T3.out.2.2.1 (by omega) (by omega) (by omega)) ?_
        rintro e w4 ⟨j4, rfl, hj4, hr4, hk4⟩
        have hj4' : j4 < 18 := by simpa using hj4
        have T4 := Lib.hid (ent_pick hl T3.out hr4 hk4)
        clear hr4 hk4 T3 hj4
        have K1 := Lib.hid (And.intro (show (l.length + 1) * 24 ≤ 140737488355328 by omega) (show l.length + 1 ≤ maxLen by unfold maxLen; omega))
        have HM := Lib.hid (show ∀ x ∈ l ++ [(⟨s, (j4 : Int) - 1⟩ : Ent)], x.name.size ≤ 100 from fun x hx => by
          rcases List.mem_append.1 hx with hx | hx
          · exact T4.out.2.1 x hx
          · simp at hx; subst hx; dsimp only; omega)
        have k2 : IntKind.i64.wrap ((j4 : Int) - 1) = (j4 : Int) - 1 := IntWalk.i64_in _ (by omega)
        go_wp2_with (at_builtin; refine wpList_app (ys := ([⟨s, (j4 : Int) - 1⟩] : List Ent)) elE rfl _ _ rfl (by rfl) (own_alloc T4.out.1 _) (by rfl) rfl (rd_one _ s _) oneE K1.out.1 K1.out.2 (ent_alloc T4.out _).2.2.2.size ?_; intro v1 w5 ownv1 grv1 atv1; have T5 := Lib.hid (ent_app hl (ent_alloc T4.out _) ownv1 HM.out grv1); clear ownv1 grv1 atv1)
        go_ret
        exact ⟨_, l ++ [⟨s, (j4 : Int) - 1⟩], q + 1 + q3 + 1, rfl, by rw [List.length_append]; show l.length + 1 ≤ 13; omega, by omega, (by have := T5.out; rw [show p + (q + 1 + q3 + 1) = p + q + 1 + q3 + 1 by omega]; exact this)⟩
      · replace hj0 : ((j : Int) == 0) = false := by simpa using hj0
        by_cases hj1 : ((j : Int) == 1) = true
        · go_wp2_with fail
          go_loopw [3] (fun v wr => ∃ (q' : Nat) (l' : List Ent), l'.length ≤ 13 ∧ q' ≤ 32 + l'.length + 1 ∧ Hid (EntAt w rb (p + q') l' v wr)) (fun v _ => 14 - lenW v)
          case atStart => exact ⟨q + 1, l, by omega, by omega, T2⟩
          case round =>
            obtain ⟨q', l', hl13, hq', HT'⟩ := hrel
            obtain ⟨A', cap', rfl, hc1', hc2', _, _⟩ := HT'.out.1.form
            go_wp2_with fail
            refine Calls.mono (pick_nat _ rb (p + q') _ HT'.out.2.2.1 (by omega) (by omega) (by omega)) ?_
            rintro e w3 ⟨j3, rfl, hj3, hr3, hk3⟩
            have hj3' : j3 < 2 := by simpa using hj3
            have T3 := Lib.hid (ent_pick hl HT'.out hr3 hk3)
            clear hr3 hk3 hj3
            by_cases hlt : (l'.length : Int) < 12 + (j3 : Int)
            · have hw := IntWalk.u8_in ((98 : Int) + (l'.length : Int)) (by omega)
              obtain ⟨b8, hb8⟩ : ∃ b8 : UInt8, (98 : Int) + (l'.length : Int) = (b8.toNat : Int) := ⟨UInt8.ofNat (98 + l'.length), by simp; omega⟩
              have HC := conv_two w3 ((98 : Int) + (l'.length : Int)) b8 hb8
              clear hb8
              have K1 := Lib.hid (And.intro (show (l'.length + 1) * 24 ≤ 140737488355328 by omega) (show l'.length + 1 ≤ maxLen by unfold maxLen; omega))
              have HM := Lib.hid (show ∀ x ∈ l' ++ [(⟨⟨#[b8, 113]⟩, 1 + (l'.length : Int)⟩ : Ent)], x.name.size ≤ 100 from fun x hx => by
                rcases List.mem_append.1 hx with hx | hx
                · exact T3.out.2.1 x hx
                · simp at hx; subst hx; show (2 : Nat) ≤ 100; omega)
              have HRd := Lib.hid (rd_one (w3.alloc (.cells #[.int .u8 (98 + (l'.length : Int)), .int .u8 113] 5)) ⟨#[b8, 113]⟩ (1 + (l'.length : Int)))
              rw [World.size_alloc] at HRd
              have T3a := Lib.hid (ent_alloc T3.out (.cells #[.int .u8 (98 + (l'.length : Int)), .int .u8 113] 5))
              go_wp2_with (at_builtin; refine wpList_app (ys := ([⟨⟨#[b8, 113]⟩, 1 + (l'.length : Int)⟩] : List Ent)) elE rfl _ _ rfl (by rfl) (own_alloc T3a.out.1 _) (by rfl) rfl HRd.out oneE K1.out.1 K1.out.2 (ent_alloc T3a.out _).2.2.2.size ?_; intro v1 w5 ownv1 grv1 atv1; have T5 := Lib.hid (ent_app hl (ent_alloc T3a.out _) ownv1 HM.out grv1); clear ownv1 grv1 atv1)
              have hlen5 : (l' ++ [(⟨⟨#[b8, 113]⟩, 1 + (l'.length : Int)⟩ : Ent)]).length = l'.length + 1 := by simp
              obtain ⟨A5, c5, rfl, _⟩ := T5.out.1.form
              go_roundw
              case rel => exact ⟨q' + 1, l' ++ [⟨⟨#[b8, 113]⟩, 1 + (l'.length : Int)⟩], by omega, by omega, T5⟩
              case measure => simp only [lenW, hlen5]; omega
            · go_wp2_with fail
              go_ret
              exact ⟨_, _, q' + 1, rfl, by omega, by omega, T3.out⟩
        · replace hj1 : ((j : Int) == 1) = false := by simpa using hj1
          go_wp2_with fail
          go_ret
          exact ⟨_, _, q + 1, rfl, by omega, by omega, T2.out⟩

end Go.Proofs.YtjalboplilolkaaDoor
