/- What the laws on space draw: a list of at most eight pointers. -/
import Derived.Test.YtomofiklodojeaaDrawPtr2
import Derived.Test.YtomofiklodojeaaSpaceOfS
namespace Go.Proofs.Ytomofiklodojeaa
open Go.RowKit Go.Sort
set_option maxRecDepth 100000
set_option linter.unusedVariables false
set_option linter.unusedSimpArgs false

theorem rd_oneP (w : World) (a b c d e : Int) : RdT encP 5 (w.alloc (.cells #[.int .i64 a, .int .i64 b, .int .i64 c, .int .i64 d, .int .i64 e] 41)) (some ⟨w.heap.size, 0, none⟩) [(⟨a, b, c, d, e⟩ : Pt)] := fun _ => ⟨w.heap.size, 0, rfl, by simp, fun i y hy j hj => by
  have : i = 0 := by
    rcases i with _ | i
    · rfl
    · simp at hy
  subst this
  simp at hy
  subst hy
  have hb := box_new w #[.int .i64 a, .int .i64 b, .int .i64 c, .int .i64 d, .int .i64 e] 41
  rw [hb.cell]
  match j, hj with
  | 0, _ => rfl
  | 1, _ => rfl
  | 2, _ => rfl
  | 3, _ => rfl
  | 4, _ => rfl⟩

/-- The list drawn so far: its row, the reader, old memory. -/
def PS (w : World) (q : Nat) (l : List Pt) (v : Value) (wr : World) : Prop := Own encP 5 41 (w.heap.size + 1) wr v l ∧ Rs wr w.heap.size q ∧ Below w.heap.size w wr
theorem own_baseP {base : Nat} {w : World} {v : Value} {xs : List Pt} (h : Own encP 5 41 base w v xs) : ∀ k, v.ownBlock = some k → base ≤ k := by
  rcases h.2 with ⟨rfl, _⟩ | ⟨g, cap, cur, rfl, hg, _⟩
  · intro k hk; simp [Value.ownBlock] at hk
  · intro k hk; simp [Value.ownBlock] at hk; omega
theorem ps_kp {w wr w' : World} {q q' : Nat} {l : List Pt} {v : Value} (h : PS w q l v wr) (hr : Rs w' w.heap.size q') (hk : Kp [w.heap.size] wr w') : PS w q' l v w' :=
  ⟨h.1.kp hk (fun b hb e => by simp at hb; subst hb; have := own_baseP h.1 _ e; omega), hr, below_kp h.2.2 hk (by simp)⟩
theorem ps_below {w wr w' : World} {q : Nat} {l : List Pt} {v : Value} (h : PS w q l v wr) (hB : Below wr.heap.size wr w') : PS w q l v w' :=
  ⟨h.1.below hB, h.2.1.below hB, below_below h.2.2 hB⟩
theorem ps_alloc {w wr : World} {q : Nat} {l : List Pt} {v : Value} (h : PS w q l v wr) (o : Obj) : PS w q l v (wr.alloc o) := ps_below h (below_alloc (Below.refl _ _) o)
theorem ps_app {w wr w' : World} {q : Nat} {l m : List Pt} {v v' : Value} (h : PS w q l v wr) (ho : Own encP 5 41 (w.heap.size + 1) w' v' m) (hg : wr.grownBy w' v.ownBlock) : PS w q m v' w' := by
  have hl := h.2.1.lt
  have Bl := (Below.refl (w.heap.size + 1) wr).grown hg (by omega) (own_baseP h.1)
  refine ⟨ho, Rs.keep h.2.1 Bl.size (fun k hk => Bl.block k (by omega)), h.2.2.trans (Bl.mono (by omega))⟩

def PtrsD (w : World) (e : Ending) (w' : World) : Prop := ∃ (v : Value) (l : List Pt), e = .returned v ∧ Own encP 5 41 w.heap.size w' v l ∧ l.length ≤ 8 ∧ Below w.heap.size w w'

set_option maxHeartbeats 4000000 in
theorem drawSpaceOf_any (w : World) (A : Option Addr) (cap : Nat) (zs : List Int) (h : RdT (encI .u8) 1 w A zs) (hb : ∀ z ∈ zs, 0 ≤ z ∧ z ≤ 255) (hc : zs.length ≤ cap) (hm : cap ≤ 9223372036854775807) :
    Calls Try.prog 12 #[.slice A zs.length cap] w (PtrsD w) := by
  have HO := Lib.hid (open_any w A cap zs h hb hc hm)
  clear h hb
  generalize zs.length = n at HO hc ⊢
  go_enter Try.func12, Try.ntmps12
  go_wp2_with fail
  refine Calls.mono HO.out ?_
  rintro e w1 ⟨rfl, hr, hB⟩
  have P1 := Lib.hid (show PS w 0 [] (.slice (some ⟨w1.heap.size, 0, none⟩) 0 0) (w1.alloc (.cells #[] 41)) from ⟨Own.empty hr.lt, Rs.alloc hr _, below_alloc hB _⟩)
  clear hB HO hr
  go_wp2_with fail
  refine Calls.mono (pick_nat _ _ _ _ P1.out.2.1 (by omega) (by omega) (by omega)) ?_
  rintro e w2 ⟨k0, rfl, hk0, hr2, hk2⟩
  have P2 := Lib.hid (ps_kp P1.out hr2 hk2)
  have hk8 : k0 ≤ 8 := by simp at hk0; omega
  clear hk0 hk2 hr2 P1
  go_wp2_with fail
  go_loopw [4, 5] (fun v i wr => ∃ (k q : Nat) (l : List Pt), i = .int .i64 k ∧ k + l.length ≤ 8 ∧ q + 41 * k ≤ 400 ∧ Hid (PS w q l v wr)) (fun v i _ => (intOf i).toNat)
  case atStart => exact ⟨k0, 0 + 1, [], rfl, by simp; omega, by omega, P2⟩
  case round =>
    clear P2
    obtain ⟨k, q, l, rfl, hkl, hq, HP⟩ := hrel
    by_cases hlt : 0 < k
    · go_wp2_with fail
      refine Calls.mono (l91Ptr_any _ _ _ HP.out.2.1 (by omega)) ?_
      rintro e w3 ⟨⟨p0, p1, p2, p3, p4⟩, q3, he, hr3, hq3, hk3⟩
      unfold Pt.v at he
      dsimp only at he
      subst he
      have P3 := Lib.hid (ps_alloc (ps_kp HP.out hr3 hk3) (.cells #[.int .i64 p0, .int .i64 p1, .int .i64 p2, .int .i64 p3, .int .i64 p4] 41))
      have BX3 := Lib.hid (box_new w3 #[.int .i64 p0, .int .i64 p1, .int .i64 p2, .int .i64 p3, .int .i64 p4] 41)
      have hl3 := hr3.lt
      have HPO := Lib.hid (specPtrOk_any ⟨p0, p1, p2, p3, p4⟩)
      generalize ptrB ⟨p0, p1, p2, p3, p4⟩ = pb at *
      unfold Pt.v at HPO
      dsimp only at HPO
      clear hk3 hr3 HP
      go_wp2_with fail
      refine Calls.mono (HPO.out _) ?_
      rintro e w4 ⟨rfl, hB4⟩
      have P4 := Lib.hid (ps_below P3.out hB4)
      have BX4 := Lib.hid (BX3.out.below hB4)
      have bx4 := BX4.out.cell
      have hl4 := P4.out.2.1.lt
      have hw34 : w3.heap.size < w4.heap.size := BX4.out.lt
      clear HPO P3 BX3 hB4
      cases pb
      · go_wp2_with fail
        refine Calls.mono (pick_nat _ _ _ _ P4.out.2.1 (by omega) (by omega) (by omega)) ?_
        rintro e w5 ⟨k5, rfl, hk5, hr5, hkp5⟩
        have P5 := Lib.hid (ps_kp P4.out hr5 hkp5)
        have BX5 := Lib.hid (BX4.out.kp hkp5 (by simp; omega))
        have bx5 := BX5.out.cell
        clear hk5 hr5 hkp5 bx4 BX4 P4
        by_cases hz : (k5 : Int) = 0
        · have hz' : ((k5 : Int) == 0) = true := by simpa using hz
          have K1 := Lib.hid (And.intro (show (l.length + 1) * 40 ≤ 140737488355328 by omega) (show l.length + 1 ≤ maxLen by unfold maxLen; omega))
          go_wp2_with (at_builtin; refine wpList_app (ys := ([⟨p0, p1, p2, p3, p4⟩] : List Pt)) elP rfl _ _ rfl (by rfl) (ps_alloc P5.out _).1 (by rfl) rfl (rd_oneP _ _ _ _ _ _) oneP K1.out.1 K1.out.2 (by have := (ps_alloc P5.out (.cells #[.int .i64 p0, .int .i64 p1, .int .i64 p2, .int .i64 p3, .int .i64 p4] 41)).2.1.lt; omega) ?_; intro v1 w6 ownv1 grv1 atv1; have P6 := Lib.hid (ps_app (ps_alloc P5.out _) ownv1 grv1); clear ownv1 grv1 atv1)
          go_roundw
          case rel => exact ⟨k - 1, _, _, by go_num, by simp; omega, by omega, P6⟩
          case measure => simp [intOf]; omega
        · have hz' : ((k5 : Int) == 0) = false := by simpa using hz
          go_wp2_with fail
          go_roundw
          case rel => exact ⟨k - 1, _, _, by go_num, by omega, by omega, P5⟩
          case measure => simp [intOf]; omega
      · have K1 := Lib.hid (And.intro (show (l.length + 1) * 40 ≤ 140737488355328 by omega) (show l.length + 1 ≤ maxLen by unfold maxLen; omega))
        go_wp2_with (at_builtin; refine wpList_app (ys := ([⟨p0, p1, p2, p3, p4⟩] : List Pt)) elP rfl _ _ rfl (by rfl) (ps_alloc P4.out _).1 (by rfl) rfl (rd_oneP _ _ _ _ _ _) oneP K1.out.1 K1.out.2 (by have := (ps_alloc P4.out (.cells #[.int .i64 p0, .int .i64 p1, .int .i64 p2, .int .i64 p3, .int .i64 p4] 41)).2.1.lt; omega) ?_; intro v1 w6 ownv1 grv1 atv1; have P6 := Lib.hid (ps_app (ps_alloc P4.out _) ownv1 grv1); clear ownv1 grv1 atv1)
        go_roundw
        case rel => exact ⟨k - 1, _, _, by go_num, by simp; omega, by omega, P6⟩
        case measure => simp [intOf]; omega
    · obtain rfl : k = 0 := by omega
      go_wp2_with fail
      go_ret
      exact ⟨_, l, rfl, HP.out.1.more (by omega), by omega, HP.out.2.2⟩

end Go.Proofs.Ytomofiklodojeaa
