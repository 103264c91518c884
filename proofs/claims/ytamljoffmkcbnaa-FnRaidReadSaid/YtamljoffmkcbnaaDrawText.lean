/- Texts drawn. -/
import Derived.Test.YtamljoffmkcbnaaDrawName
import Derived.Test.YtamljoffmkcbnaaAppend
import Derived.Laws.IdiomStrings
import Derived.Lib.SlBytesConst
namespace Go.Proofs.Ytamljoffmkcbnaa
open Go.RowKit
set_option linter.unusedVariables false
set_option linter.unusedSimpArgs false

def encB (b : UInt8) (_ : Nat) : Value := .int .u8 (b.toNat : Int)
theorem oneB : OneC encB := fun x j => rfl
theorem info_byte : (Try.prog.info? 5).map (fun i => (i.zero, i.size, i.bytes)) = some (some (.int .u8 0), 1, 1) := by kernel_rfl
theorem elB : El 22 5 1 1 := El.mk' Try.underlying22 info_byte rfl (by omega)
theorem rd_oneB (w : World) (x : Int) (b : UInt8) (hx : x = (b.toNat : Int)) : RdT encB 1 (w.alloc (.cells #[.int .u8 x] 5)) (some ⟨w.heap.size, 0, none⟩) [b] := fun _ => ⟨w.heap.size, 0, rfl, by simp, fun i y hy j hj => by
  have : i = 0 := by
    rcases i with _ | i
    · rfl
    · simp at hy
  subst this
  simp at hy
  subst hy
  subst hx
  obtain rfl : j = 0 := by omega
  unfold World.cell?
  simp only [heap_alloc_new]
  simp [encB]⟩
theorem own_allocB {base : Nat} {w : World} {v : Value} {l : List UInt8} (h : Own encB 1 5 base w v l) (o : Obj) : Own encB 1 5 base (w.alloc o) v l := h.below ((Below.refl _ _).alloc (Nat.le_refl _) o)
theorem own_baseB {base : Nat} {w : World} {v : Value} {xs : List UInt8} (h : Own encB 1 5 base w v xs) : ∀ k, v.ownBlock = some k → base ≤ k := by
  rcases h.2 with ⟨rfl, _⟩ | ⟨g, cap, cur, rfl, hg, _⟩
  · intro k hk; simp [Value.ownBlock] at hk
  · intro k hk; simp [Value.ownBlock] at hk; omega

/-- The text drawn so far: its row, the reader, old memory. -/
def TextAt (w : World) (rb q : Nat) (l : List UInt8) (v : Value) (wr : World) : Prop := Own encB 1 5 w.heap.size wr v l ∧ v.ownBlock ≠ none ∧ Rs wr rb q ∧ Kp [rb] w wr

theorem text_pick {w wr w' : World} {rb q : Nat} {l : List UInt8} {v : Value} (hlt : rb < w.heap.size) (h : TextAt w rb q l v wr) (hr : Rs w' rb (q + 1)) (hk : Kp [rb] wr w') : TextAt w rb (q + 1) l v w' :=
  ⟨h.1.kp hk (fun b hb e => by simp at hb; subst hb; have := own_baseB h.1 _ e; omega), h.2.1, hr, h.2.2.2.trans hk⟩
theorem text_alloc {w wr : World} {rb q : Nat} {l : List UInt8} {v : Value} (h : TextAt w rb q l v wr) (o : Obj) : TextAt w rb q l v (wr.alloc o) := ⟨own_allocB h.1 o, h.2.1, Rs.alloc h.2.2.1 o, h.2.2.2.alloc o⟩
theorem text_app {w wr w' : World} {rb q : Nat} {l m : List UInt8} {v v' : Value} (hlt : rb < w.heap.size) (h : TextAt w rb q l v wr) (ho : Own encB 1 5 w.heap.size w' v' m) (hg : wr.grownBy w' v.ownBlock) (ha : v'.ownBlock = v.ownBlock ∨ v'.ownBlock = some wr.heap.size) : TextAt w rb q m v' w' := by
  have Bl := (Below.refl w.heap.size wr).grown hg h.2.2.2.size (own_baseB h.1)
  refine ⟨ho, ?_, Rs.keep h.2.2.1 Bl.size (fun k hk => Bl.block k (by omega)), ⟨Bl.os.trans h.2.2.2.os, Bl.tape.trans h.2.2.2.tape, Bl.output.trans h.2.2.2.output, Nat.le_trans h.2.2.2.size Bl.size, fun k hk he => (Bl.block k hk).trans (h.2.2.2.block k hk he)⟩⟩
  rcases ha with ha | ha
  · rw [ha]; exact h.2.1
  · rw [ha]; simp

theorem text_bytes {w wr : World} {rb q : Nat} {l : List UInt8} {v : Value} (h : TextAt w rb q l v wr) : ∃ g cap, v = .slice (some ⟨g, 0, none⟩) l.length cap ∧ (convert 22 9 v).run Try.prog wr = .ok (.string ⟨l.toArray⟩) wr := by
  obtain ⟨A, cap, rfl, h1, h2, _, h3⟩ := h.1.form
  rcases h.1.2 with ⟨hv, _⟩ | ⟨g, cap', cur, hv, _⟩
  · have := h.2.1
    rw [hv] at this
    exact absurd rfl this
  · cases hv
    refine ⟨g, cap, rfl, ?_⟩
    exact run_convert_bytes_back (P := Try.prog) wr 22 9 5 ⟨g, 0, none⟩ cap l Try.underlying22 Try.underlying5 Try.underlying9 (fun j hj => by
      obtain ⟨b, off, hx, hr⟩ := h3 (by omega)
      cases hx
      have := hr.2 j l[j] (List.getElem?_eq_getElem hj) 0 (by omega)
      rw [addr_add]
      simpa [encB] using this)

theorem text_form {w wr : World} {rb q : Nat} {l : List UInt8} {v : Value} (h : TextAt w rb q l v wr) : ∃ g cap, v = .slice (some ⟨g, 0, none⟩) l.length cap := by
  obtain ⟨g, cap, e, _⟩ := text_bytes h
  exact ⟨g, cap, e⟩
def lenV : Value → Nat
  | .slice _ k _ => k
  | _ => 0
theorem u8_nat (z : Nat) (h : z < 256) : (z : Int) = ((UInt8.ofNat z).toNat : Int) := by simp; omega
theorem lit_u8 (l : List Int) (h : ∀ z ∈ l, 0 ≤ z ∧ z ≤ 255) (k : Nat) (hk : k < l.length) : ∃ z : Int, (l.map (Value.int .u8)).toArray[k]? = some (.int .u8 z) ∧ z = ((UInt8.ofNat z.toNat).toNat : Int) := by
  refine ⟨l[k], by simp [List.getElem?_eq_getElem hk], ?_⟩
  have := h _ (List.getElem_mem hk)
  simp
  omega

set_option maxHeartbeats 8000000 in
theorem l91Text_any (w : World) (rb p n : Nat) (h : Rs w rb p) (hp : p ≤ 1000000) (hn : n ≤ 1000) :
    Calls Try.prog 63 #[.pointer (some ⟨rb, 0, none⟩), .int .i64 n] w (StrD n (2 + 3 * n) w rb p) := by
  have hr := h
  clear h
  have hl := hr.lt
  have kc := fun (w : World) (C : Array Value) (n c : Nat) => Lib.run_convert_bytes_const (P := Try.prog) w 22 5 C n c Try.underlying22 Try.underlying5
  have q0 : IntKind.i64.wrap ((n : Int) + 1) = (n : Int) + 1 := IntWalk.i64_in _ (by omega)
  go_enter Try.func63, Try.ntmps63
  go_wp2_with fail
  refine Calls.mono (pick_nat _ _ _ _ (Rs.alloc hr _) (by omega) (by omega) (by omega)) ?_
  rintro e w1 ⟨m, rfl, hm0, hr1, hk1⟩
  have hm : m ≤ n := by omega
  have T1 : TextAt w rb (p + 1) [] (.slice (some ⟨w.heap.size, 0, none⟩) 0 0) w1 :=
    text_pick hl (show TextAt w rb p [] (.slice (some ⟨w.heap.size, 0, none⟩) 0 0) (w.alloc (.cells #[] 5)) from ⟨Own.empty (Nat.le_refl _), by simp [Value.ownBlock], Rs.alloc hr _, (Kp.refl _ _).alloc _⟩) hr1 hk1
  have hT1 := Lib.hid T1
  clear hk1 T1 hm0
  go_wp2_with fail
  refine Calls.mono (pick_nat _ _ _ _ hr1 (by omega) (by omega) (by omega)) ?_
  rintro e w2 ⟨kd, rfl, hkd, hr2, hk2⟩
  have hT2 := Lib.hid (text_pick hl hT1.out hr2 hk2)
  have hkd4 : kd < 4 := by simpa using hkd
  clear hk2 hr2 hr1 hT1 hkd
  go_wp2_with fail
  go_loopw [5] (fun v wr => ∃ (q g c : Nat) (l : List UInt8), v = .slice (some ⟨g, 0, none⟩) l.length c ∧ Hid (TextAt w rb (p + q) l (.slice (some ⟨g, 0, none⟩) l.length c) wr) ∧ l.length ≤ m ∧ q ≤ 2 + 3 * l.length) (fun v _ => m - lenV v)
  case atStart => exact ⟨2, _, _, [], rfl, hT2, Nat.zero_le _, by simp⟩
  case round =>
    clear hT2
    obtain ⟨q, g, c, l, rfl, HT, hlm, hq⟩ := hrel
    by_cases hlt : l.length < m
    · have K1 := Lib.hid (And.intro (show (l.length + 1) * 1 ≤ 140737488355328 by omega) (show l.length + 1 ≤ maxLen by unfold maxLen; omega))
      rcases (show (((kd : Int) == 0) = true) ∨ (((kd : Int) == 0) = false ∧ ((kd : Int) == 1) = true) ∨ (((kd : Int) == 0) = false ∧ ((kd : Int) == 1) = false ∧ ((kd : Int) == 2) = true) ∨ (((kd : Int) == 0) = false ∧ ((kd : Int) == 1) = false ∧ ((kd : Int) == 2) = false) by
        simp only [beq_iff_eq, beq_eq_false_iff_ne]; omega) with k0 | ⟨k0, k1⟩ | ⟨k0, k1, k2⟩ | ⟨k0, k1, k2⟩
      · go_wp2_with fail
        refine Calls.mono (pick_nat _ _ _ _ HT.out.2.2.1 (by omega) (by omega) (by omega)) ?_
        rintro e w3 ⟨z, rfl, hz, hr3, hk3⟩
        have T3 := Lib.hid (text_pick hl HT.out hr3 hk3)
        have hz' : z < 256 := by simpa using hz
        have HX := Lib.hid (u8_nat z hz')
        have hw := IntWalk.u8_in (z : Int) (by omega)
        clear hz hk3 hr3
        go_wp2_with (at_builtin; refine wpList_app (ys := ([UInt8.ofNat z] : List UInt8)) elB rfl _ _ rfl (by rfl) (own_allocB T3.out.1 _) (by rfl) rfl (rd_oneB _ _ _ HX.out) oneB K1.out.1 K1.out.2 (text_alloc T3.out _).2.2.2.size ?_; intro v1 w4 ownv1 grv1 atv1; have T4 := Lib.hid (text_app hl (text_alloc T3.out _) ownv1 grv1 atv1); clear ownv1 grv1 atv1; obtain ⟨g4, c4, rfl⟩ := text_form T4.out)
        go_roundw
        case rel => exact ⟨q + 1, g4, c4, l ++ [UInt8.ofNat z], by simp, T4, by simp; omega, by simp; omega⟩
        case measure => simp [lenV]; omega
      · go_wp2_with fail
        refine Calls.mono (pick_nat _ rb (p + q) _ (Rs.alloc HT.out.2.2.1 _) (by omega) (by omega) (by omega)) ?_
        rintro e w3 ⟨j, rfl, hj, hr3, hk3⟩
        have T3 := Lib.hid (text_pick hl (text_alloc HT.out _) hr3 hk3)
        have hru := hk3.rule
        have hsz := hk3.size
        have hrl : rb < wr.heap.size := HT.out.2.2.1.lt
        have hne : ¬ wr.heap.size = rb := by omega
        simp only [World.size_alloc, Nat.add_one_le_iff] at hsz
        obtain ⟨z, hz, hzb⟩ := lit_u8 [97, 98, 126, 48, 58, 59, 61] (by decide) j hj
        simp only [List.map] at hz
        have hj1 : (j : Int) < 7 := by simp at hj; omega
        have HX := Lib.hid hzb
        have hcl : w3.cell? ⟨wr.heap.size, j, none⟩ = some (.int .u8 z) := by
          rw [hru _ _ (by simp) hne]
          unfold World.cell?
          simp only [heap_alloc_new]
          simpa using hz
        clear hj hk3 hr3 hzb hru hz
        go_wp2_with (at_builtin; refine wpList_app (ys := ([UInt8.ofNat z.toNat] : List UInt8)) elB rfl _ _ rfl (by rfl) (own_allocB T3.out.1 _) (by rfl) rfl (rd_oneB _ _ _ HX.out) oneB K1.out.1 K1.out.2 (text_alloc T3.out _).2.2.2.size ?_; intro v1 w4 ownv1 grv1 atv1; have T4 := Lib.hid (text_app hl (text_alloc T3.out _) ownv1 grv1 atv1); clear ownv1 grv1 atv1; obtain ⟨g4, c4, rfl⟩ := text_form T4.out)
        go_roundw
        case rel => exact ⟨q + 1, g4, c4, l ++ [UInt8.ofNat z.toNat], by simp, T4, by simp; omega, by simp; omega⟩
        case measure => simp [lenV]; omega
      · go_wp2_with fail
        refine Calls.mono (pick_nat _ _ _ _ HT.out.2.2.1 (by omega) (by omega) (by omega)) ?_
        rintro e w3 ⟨z, rfl, hz, hr3, hk3⟩
        have T3 := Lib.hid (text_pick hl HT.out hr3 hk3)
        have hz' : z < 3 := by simpa using hz
        have HX := Lib.hid (show (97 : Int) + (z : Int) = ((UInt8.ofNat (97 + z)).toNat : Int) by rw [← u8_nat (97 + z) (by omega)]; omega)
        have hw := IntWalk.u8_in ((97 : Int) + (z : Int)) (by omega)
        clear hz hk3
        go_wp2_with fail
        refine Calls.mono (pick_nat _ _ _ _ hr3 (by omega) (by omega) (by omega)) ?_
        rintro e w4 ⟨y, rfl, hy, hr4, hk4⟩
        have T4 := Lib.hid (text_pick hl T3.out hr4 hk4)
        have hy' : y < 6 := by simpa using hy
        clear hy hk4 hr4 hr3 T3
        go_wp2_with fail
        go_loopw [5, 9] (fun v i wr => ∃ (g c : Nat) (l' : List UInt8) (j : Int), v = .slice (some ⟨g, 0, none⟩) l'.length c ∧ i = .int .i64 j ∧ -1 ≤ j ∧ j ≤ 6 ∧ Hid (TextAt w rb (p + q + 1 + 1) l' (.slice (some ⟨g, 0, none⟩) l'.length c) wr) ∧ l'.length ≤ m ∧ l.length ≤ l'.length ∧ (l'.length = l.length → 0 ≤ j)) (fun v i _ => ((intOf i) + 1).toNat)
        case atStart => exact ⟨g, c, l, y, rfl, rfl, by omega, by omega, T4, hlm, Nat.le_refl _, fun _ => by omega⟩
        case round =>
          obtain ⟨g', c', l', j, rfl, rfl, hj1, hj2, HT', hlm', hll, hjz⟩ := hrel
          by_cases hj0 : 0 ≤ j
          · by_cases hlt' : l'.length < m
            · have K2 := Lib.hid (And.intro (show (l'.length + 1) * 1 ≤ 140737488355328 by omega) (show l'.length + 1 ≤ maxLen by unfold maxLen; omega))
              have qj : IntKind.i64.wrap (j - 1) = j - 1 := IntWalk.i64_in _ (by omega)
              go_wp2_with (at_builtin; refine wpList_app (ys := ([UInt8.ofNat (97 + z)] : List UInt8)) elB rfl _ _ rfl (by rfl) (own_allocB HT'.out.1 _) (by rfl) rfl (rd_oneB _ _ _ HX.out) oneB K2.out.1 K2.out.2 (text_alloc HT'.out _).2.2.2.size ?_; intro v1 w5 ownv1 grv1 atv1; have T5 := Lib.hid (text_app hl (text_alloc HT'.out _) ownv1 grv1 atv1); clear ownv1 grv1 atv1; obtain ⟨g5, c5, rfl⟩ := text_form T5.out)
              go_roundw
              case rel => exact ⟨g5, c5, l' ++ [UInt8.ofNat (97 + z)], j - 1, by simp, rfl, by omega, by omega, T5, by simp; omega, by simp; omega, by simp; omega⟩
              case measure => simp [intOf]; omega
            · go_wp2_with fail
              go_roundw
              case rel => exact ⟨q + 2, g', c', l', rfl, HT', hlm', by omega⟩
              case measure => simp [lenV]; omega
          · have hgt : l.length < l'.length := by
              rcases Nat.lt_or_ge l.length l'.length with h | h
              · exact h
              · exact absurd (hjz (by omega)) hj0
            go_wp2_with fail
            go_roundw
            case rel => exact ⟨q + 2, g', c', l', rfl, HT', hlm', by omega⟩
            case measure => simp [lenV]; omega
      · go_wp2_with fail
        refine Calls.mono (pick_nat _ _ _ _ HT.out.2.2.1 (by omega) (by omega) (by omega)) ?_
        rintro e w3 ⟨z, rfl, hz, hr3, hk3⟩
        have T3 := Lib.hid (text_pick hl HT.out hr3 hk3)
        have hz' : z < 2 := by simpa using hz
        have HX := Lib.hid (show (z : Int) * 97 = ((UInt8.ofNat (z * 97)).toNat : Int) by rw [← u8_nat (z * 97) (by omega)]; omega)
        have hw := IntWalk.u8_in ((z : Int) * 97) (by omega)
        clear hz hk3 hr3
        go_wp2_with (at_builtin; refine wpList_app (ys := ([UInt8.ofNat (z * 97)] : List UInt8)) elB rfl _ _ rfl (by rfl) (own_allocB T3.out.1 _) (by rfl) rfl (rd_oneB _ _ _ HX.out) oneB K1.out.1 K1.out.2 (text_alloc T3.out _).2.2.2.size ?_; intro v1 w4 ownv1 grv1 atv1; have T4 := Lib.hid (text_app hl (text_alloc T3.out _) ownv1 grv1 atv1); clear ownv1 grv1 atv1; obtain ⟨g4, c4, rfl⟩ := text_form T4.out)
        go_roundw
        case rel => exact ⟨q + 1, g4, c4, l ++ [UInt8.ofNat (z * 97)], by simp, T4, by simp; omega, by simp; omega⟩
        case measure => simp [lenV]; omega
    · obtain ⟨_, _, hv, hcv⟩ := text_bytes HT.out
      have HS := Lib.hid (show (⟨l.toArray⟩ : ByteArray).size ≤ n by show l.toArray.size ≤ n; simp; omega)
      clear hv
      go_wp2_with fail
      go_ret
      exact ⟨_, q, rfl, HS.out, HT.out.2.2.1, by omega, HT.out.2.2.2⟩

end Go.Proofs.Ytamljoffmkcbnaa
