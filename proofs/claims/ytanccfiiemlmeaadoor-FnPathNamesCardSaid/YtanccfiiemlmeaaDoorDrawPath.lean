/- What the laws on paths draw: some text; some list of texts. -/
import Derived.Test.YtanccfiiemlmeaaDoorDrawName
import Derived.Test.YtanccfiiemlmeaaDoorPathSpec
namespace Go.Proofs.YtanccfiiemlmeaaDoor
open Go.RowKit
set_option linter.unusedVariables false
set_option linter.unusedSimpArgs false

set_option maxHeartbeats 1600000 in
theorem l92Path_any (w : World) (rb p : Nat) (h : Rs w rb p) (hp : p ≤ 1000000) :
    Calls Tryd.prog 68 #[.pointer (some ⟨rb, 0, none⟩)] w (StrD 10 2 w rb p) := by
  have hr := h
  clear h
  have hl := hr.lt
  go_enter Tryd.func68, Tryd.ntmps68
  go_wp2_with fail
  refine Calls.mono (pick_nat _ _ _ _ hr (by omega) (by omega) (by omega)) ?_
  rintro e w1 ⟨k, rfl, hk0, hr1, hk1⟩
  have hl1 := hr1.lt
  have hne : ¬ w1.heap.size = rb := by omega
  by_cases hz : (k : Int) = 0
  · have hz' : ((k : Int) == 0) = true := by simpa using hz
    go_wp2_with fail
    refine Calls.mono (pick_nat _ _ _ _ (Rs.alloc hr1 _) (by omega) (by omega) (by omega)) ?_
    rintro e w2 ⟨j, rfl, hj0, hr2, hk2⟩
    have hru := hk2.rule
    have hsz := hk2.size
    simp only [World.size_alloc, Nat.add_one_le_iff] at hsz
    obtain ⟨s, hs, hss⟩ := lit_str 10 [⟨#[]⟩, ⟨#[97]⟩, ⟨#[47, 47]⟩, ⟨#[47, 97, 47]⟩, ⟨#[47, 65]⟩, ⟨#[47, 97, 47, 98, 47, 99, 47, 97, 47, 98]⟩, ⟨#[47, 97, 98, 99, 100, 101]⟩, ⟨#[47, 97, 47, 47, 98]⟩] (by decide) j hj0
    simp only [List.map] at hs
    have hj1 : (j : Int) < 8 := by simp at hj0; omega
    clear hj0
    have K := Lib.hid (show Kp [rb] w w2 from (hk1.alloc _).trans hk2)
    go_wp2_with fail
    go_ret
    exact ⟨s, 2, rfl, hss, hr2, Nat.le_refl _, K.out⟩
  · have hz' : ((k : Int) == 0) = false := by simpa using hz
    go_wp2_with fail
    refine Calls.mono (pick_nat _ _ _ _ (Rs.alloc hr1 _) (by omega) (by omega) (by omega)) ?_
    rintro e w2 ⟨j, rfl, hj0, hr2, hk2⟩
    have hru := hk2.rule
    have hsz := hk2.size
    simp only [World.size_alloc, Nat.add_one_le_iff] at hsz
    obtain ⟨s, hs, hss⟩ := lit_str 10 [⟨#[47, 97]⟩, ⟨#[47, 98]⟩, ⟨#[47, 97, 47, 98]⟩, ⟨#[47, 97, 47, 99]⟩, ⟨#[47, 98, 47, 97]⟩, ⟨#[47, 99]⟩, ⟨#[47, 97, 47, 98, 47, 99]⟩, ⟨#[47, 99, 47, 97]⟩, ⟨#[47, 97, 98]⟩, ⟨#[47]⟩] (by decide) j hj0
    simp only [List.map] at hs
    have hj1 : (j : Int) < 10 := by simp at hj0; omega
    clear hj0
    have K := Lib.hid (show Kp [rb] w w2 from (hk1.alloc _).trans hk2)
    go_wp2_with fail
    go_ret
    exact ⟨s, 2, rfl, hss, hr2, Nat.le_refl _, K.out⟩

/-- Some text; two texts; a list of texts. -/
def Str1 (w : World) (e : Ending) (w' : World) : Prop := ∃ s : ByteArray, e = .returned (.string s) ∧ s.size ≤ 64 ∧ Below w.heap.size w w'
def Str2 (w : World) (e : Ending) (w' : World) : Prop := ∃ s t : ByteArray, e = .returned (.tuple #[.string s, .string t]) ∧ s.size ≤ 64 ∧ t.size ≤ 64 ∧ Below w.heap.size w w'
def Strs1 (w : World) (e : Ending) (w' : World) : Prop := ∃ (v : Value) (xs : List ByteArray), e = .returned v ∧ Own encS 1 9 w.heap.size w' v xs ∧ xs.length ≤ 64 ∧ (∀ x ∈ xs, x.size ≤ 64) ∧ Below w.heap.size w w'

theorem kp_below {w w1 w2 : World} {rb : Nat} (h : Below w.heap.size w w1) (hk : Kp [rb] w1 w2) (hr : w.heap.size ≤ rb) : Below w.heap.size w w2 := below_kp h hk (fun k hk => by simp at hk; omega)

theorem drawPathBase_any (w : World) (A : Option Addr) (cap : Nat) (zs : List Int) (h : RdT (encI .u8) 1 w A zs) (hb : ∀ z ∈ zs, 0 ≤ z ∧ z ≤ 255) (hc : zs.length ≤ cap) (hm : cap ≤ 9223372036854775807) :
    Calls Tryd.prog 45 #[.slice A zs.length cap] w (Str1 w) := by
  have HO := Lib.hid (open_any w A cap zs h hb hc hm)
  clear h hb
  generalize zs.length = n at HO hc ⊢
  go_enter Tryd.func45, Tryd.ntmps45
  go_wp2_with fail
  refine Calls.mono HO.out ?_
  rintro e w1 ⟨rfl, hr, hB⟩
  have HB := Lib.hid hB
  clear hB
  go_wp2_with fail
  refine Calls.mono (l92Path_any _ _ _ hr (by omega)) ?_
  rintro e w2 ⟨s, q, rfl, hs, hr2, hq, hk⟩
  have HK := Lib.hid hk
  clear hk
  go_wp2_with fail
  go_ret
  exact ⟨s, rfl, by omega, kp_below HB.out HK.out (Nat.le_refl _)⟩

theorem drawPathFolder_any (w : World) (A : Option Addr) (cap : Nat) (zs : List Int) (h : RdT (encI .u8) 1 w A zs) (hb : ∀ z ∈ zs, 0 ≤ z ∧ z ≤ 255) (hc : zs.length ≤ cap) (hm : cap ≤ 9223372036854775807) :
    Calls Tryd.prog 47 #[.slice A zs.length cap] w (Str1 w) := by
  have HO := Lib.hid (open_any w A cap zs h hb hc hm)
  clear h hb
  generalize zs.length = n at HO hc ⊢
  go_enter Tryd.func47, Tryd.ntmps47
  go_wp2_with fail
  refine Calls.mono HO.out ?_
  rintro e w1 ⟨rfl, hr, hB⟩
  have HB := Lib.hid hB
  clear hB
  go_wp2_with fail
  refine Calls.mono (l92Path_any _ _ _ hr (by omega)) ?_
  rintro e w2 ⟨s, q, rfl, hs, hr2, hq, hk⟩
  have HK := Lib.hid hk
  clear hk
  go_wp2_with fail
  go_ret
  exact ⟨s, rfl, by omega, kp_below HB.out HK.out (Nat.le_refl _)⟩

theorem drawPathJoin_any (w : World) (A : Option Addr) (cap : Nat) (zs : List Int) (h : RdT (encI .u8) 1 w A zs) (hb : ∀ z ∈ zs, 0 ≤ z ∧ z ≤ 255) (hc : zs.length ≤ cap) (hm : cap ≤ 9223372036854775807) :
    Calls Tryd.prog 49 #[.slice A zs.length cap] w (Str2 w) := by
  have HO := Lib.hid (open_any w A cap zs h hb hc hm)
  clear h hb
  generalize zs.length = n at HO hc ⊢
  go_enter Tryd.func49, Tryd.ntmps49
  go_wp2_with fail
  refine Calls.mono HO.out ?_
  rintro e w1 ⟨rfl, hr, hB⟩
  have HB := Lib.hid hB
  clear hB
  go_wp2_with fail
  refine Calls.mono (l92Path_any _ _ _ hr (by omega)) ?_
  rintro e w2 ⟨s, q, rfl, hs, hr2, hq, hk⟩
  have HB2 := Lib.hid (kp_below HB.out hk (Nat.le_refl _))
  clear hk
  go_wp2_with fail
  refine Calls.mono (l92Name_any _ _ _ hr2 (by omega)) ?_
  rintro e w3 ⟨t, q2, rfl, ht, hr3, hq2, hk⟩
  have HB3 := Lib.hid (kp_below HB2.out hk (Nat.le_refl _))
  clear hk
  go_wp2_with fail
  go_ret2
  exact ⟨s, t, rfl, by omega, by omega, HB3.out⟩

theorem drawPathUnder_any (w : World) (A : Option Addr) (cap : Nat) (zs : List Int) (h : RdT (encI .u8) 1 w A zs) (hb : ∀ z ∈ zs, 0 ≤ z ∧ z ≤ 255) (hc : zs.length ≤ cap) (hm : cap ≤ 9223372036854775807) :
    Calls Tryd.prog 48 #[.slice A zs.length cap] w (Str2 w) := by
  have HO := Lib.hid (open_any w A cap zs h hb hc hm)
  clear h hb
  generalize zs.length = n at HO hc ⊢
  go_enter Tryd.func48, Tryd.ntmps48
  go_wp2_with fail
  refine Calls.mono HO.out ?_
  rintro e w1 ⟨rfl, hr, hB⟩
  have HB := Lib.hid hB
  clear hB
  go_wp2_with fail
  refine Calls.mono (l92Path_any _ _ _ hr (by omega)) ?_
  rintro e w2 ⟨s, q, rfl, hs, hr2, hq, hk⟩
  have HB2 := Lib.hid (kp_below HB.out hk (Nat.le_refl _))
  clear hk
  go_wp2_with fail
  refine Calls.mono (l92Path_any _ _ _ hr2 (by omega)) ?_
  rintro e w3 ⟨t, q2, rfl, ht, hr3, hq2, hk⟩
  have HB3 := Lib.hid (kp_below HB2.out hk (Nat.le_refl _))
  clear hk
  go_wp2_with fail
  go_ret2
  exact ⟨s, t, rfl, by omega, by omega, HB3.out⟩

theorem own_baseS {base : Nat} {w : World} {v : Value} {xs : List ByteArray} (h : Own encS 1 9 base w v xs) : ∀ k, v.ownBlock = some k → base ≤ k := by
  rcases h.2 with ⟨rfl, _⟩ | ⟨g, cap, cur, rfl, hg, _⟩
  · intro k hk; simp [Value.ownBlock] at hk
  · intro k hk; simp [Value.ownBlock] at hk; omega

set_option maxHeartbeats 1600000 in
theorem drawPathOf_any (w : World) (A : Option Addr) (cap : Nat) (zs : List Int) (h : RdT (encI .u8) 1 w A zs) (hb : ∀ z ∈ zs, 0 ≤ z ∧ z ≤ 255) (hc : zs.length ≤ cap) (hm : cap ≤ 9223372036854775807) :
    Calls Tryd.prog 27 #[.slice A zs.length cap] w (Strs1 w) := by
  have HO := Lib.hid (open_any w A cap zs h hb hc hm)
  clear h hb
  generalize zs.length = n at HO hc ⊢
  go_enter Tryd.func27, Tryd.ntmps27
  go_wp2_with fail
  refine Calls.mono HO.out ?_
  rintro e w1 ⟨rfl, hr, hB⟩
  have HB := Lib.hid hB
  have hs1 := hr.lt
  clear hB
  go_wp2_with fail
  refine Calls.mono (pick_nat _ _ _ _ (Rs.alloc hr _) (by omega) (by omega) (by omega)) ?_
  rintro e w2 ⟨k, rfl, hk0, hr2, hk2⟩
  have hk6 : k < 6 := by simpa using hk0
  have HO1 := Lib.hid (show Own encS 1 9 (w.heap.size + 1) w2 (.slice (some ⟨w1.heap.size, 0, none⟩) 0 0) ([] : List ByteArray) from (Own.empty (base := w.heap.size + 1) (w := w1) (by omega)).kp hk2 (fun b hb => by simp at hb; simp [Value.ownBlock]; omega))
  have HB2 := Lib.hid (kp_below (below_alloc HB.out _) hk2 (Nat.le_refl _))
  clear hk2 hk0 HO HB
  go_wp2_with fail
  go_loopw [4, 5] (fun v i wr => ∃ (j q : Nat) (l : List ByteArray), j ≤ k ∧ i = .int .i64 j ∧ Hid (Own encS 1 9 (w.heap.size + 1) wr v l) ∧ Hid (Rs wr w.heap.size q) ∧ q + 2 * j ≤ 20 ∧ l.length + j ≤ 6 ∧ Hid (∀ x ∈ l, x.size ≤ 64) ∧ Hid (Below w.heap.size w wr)) (fun v i _ => (intOf i).toNat)
  case atStart => exact ⟨k, 0 + 1, [], Nat.le_refl _, rfl, HO1, Lib.hid hr2, by omega, by simp; omega, Lib.hid (fun x hx => by cases hx), HB2⟩
  case round =>
    clear HO1 HB2 hr2
    obtain ⟨j, q, l, hj, rfl, HL, HR, hq, hl, HZ, HB⟩ := hrel
    by_cases hj0 : 0 < j
    · have K1 := Lib.hid (And.intro (show (l.length + 1) * 16 ≤ 140737488355328 by omega) (show l.length + 1 ≤ maxLen by unfold maxLen; omega))
      go_wp2_with fail
      refine Calls.mono (l92Name_any _ _ _ HR.out (by omega)) ?_
      rintro e w3 ⟨s, q3, rfl, hs, hr3, hq3, hk3⟩
      have HL3 := Lib.hid (HL.out.kp hk3 (fun b hb e => by
        simp at hb
        subst hb
        rcases HL.out.2 with ⟨hv, _⟩ | ⟨g, cap, cur, hv, hg, _⟩
        · rw [hv] at e; simp [Value.ownBlock] at e
        · rw [hv] at e; simp [Value.ownBlock] at e; omega))
      have HB3 := Lib.hid (kp_below HB.out hk3 (Nat.le_refl _))
      have HR3 := Lib.hid hr3
      have HS := Lib.hid (show ∀ x ∈ l ++ [s], x.size ≤ 64 from fun x hx => by
        rcases List.mem_append.1 hx with hx | hx
        · exact HZ.out x hx
        · simp at hx; rw [hx]; omega)
      have hb3 : w.heap.size + 1 ≤ w3.heap.size := by have := hr3.lt; omega
      clear hk3 hr3
      go_wp2_with (at_builtin; refine wpList_app (ys := ([s] : List ByteArray)) elS rfl _ _ rfl (by rfl) (own_allocS HL3.out _) (by rfl) rfl (rd_oneS _ _) oneS K1.out.1 K1.out.2 (by simp; omega) ?_; intro v1 w4 ownv1 grv1 atv1)
      have hsz : w.heap.size + 1 ≤ (w3.alloc (.cells #[.string s] 9)).heap.size := by simp; omega
      have Bl := (Below.refl (w.heap.size + 1) (w3.alloc (.cells #[.string s] 9))).grown grv1 hsz (own_baseS HL3.out)
      have HR4 := Lib.hid (Rs.keep (Rs.alloc HR3.out (.cells #[.string s] 9)) Bl.size (fun k hk => Bl.block k (by omega)))
      have HB4 := Lib.hid ((below_alloc HB3.out (.cells #[.string s] 9)).trans (Bl.mono (by omega)))
      exact ⟨⟨j - 1, q + q3, l ++ [s], by omega, by rw [show ((j : Int) - 1) = ((j - 1 : Nat) : Int) by omega], Lib.hid ownv1, HR4, by omega, by simp; omega, HS, HB4⟩, by simp [intOf]; omega⟩
    · obtain rfl : j = 0 := by omega
      go_wp2_with fail
      go_ret
      exact ⟨_, l, rfl, HL.out.more (by omega), by omega, HZ.out, HB.out⟩

end Go.Proofs.YtanccfiiemlmeaaDoor
