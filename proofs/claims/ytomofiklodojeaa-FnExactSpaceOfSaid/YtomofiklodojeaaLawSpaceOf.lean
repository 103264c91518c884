/- FnExactSpaceOf returns true for every list of pointers. No condition. -/
import Derived.Test.YtomofiklodojeaaSpaceOfS
import Derived.Test.YtomofiklodojeaaSpaceHelp
import Derived.Test.YtomofiklodojeaaLaw
namespace Go.Proofs.Ytomofiklodojeaa.lawExactSpaceOf
open Go.ChangeShapes Go.WideShapes Go.ChangeAt Go.RowKit
set_option maxRecDepth 100000
set_option linter.unusedVariables false
set_option linter.unusedSimpArgs false

theorem spFrom_len : ∀ (l pre : List Pt) (rs ls a b : List Int), spFrom pre l rs ls = some (a, b) → a.length = rs.length ∧ b.length = ls.length
  | [], pre, rs, ls, a, b, h => by simp [spFrom] at h; rw [h.1, h.2]; exact ⟨rfl, rfl⟩
  | p :: r, pre, rs, ls, a, b, h => by
    unfold spFrom at h
    split at h
    · split at h
      · exact spFrom_len r _ rs ls a b h
      · split at h
        · cases h
        · have := spFrom_len r _ _ _ a b h
          rw [addR, addB', List.length_set, List.length_set] at this
          exact this
    · cases h
theorem spOf_len {ps : List Pt} {rs ls : List Int} (h : (spOf ps).getD ([], []) = (rs, ls)) : rs.length ≤ 64 ∧ ls.length ≤ 64 := by
  cases hs : spOf ps with
  | none => rw [hs] at h; simp at h; rw [h.1, h.2]; simp
  | some x =>
    obtain ⟨a, b⟩ := x
    rw [hs] at h
    simp at h
    obtain ⟨rfl, rfl⟩ := h
    have := spFrom_len ps [] _ _ _ _ hs
    simp at this
    omega
theorem exP_eq (v : Value) : exP v = exOf' v := rfl

/-- The two results, in a variable. -/
structure Two (base : Nat) (w : World) (v u : Value) (rs ls : List Int) : Prop where
  a : Own encN 1 3 base w v rs
  b : Own encN 1 3 base w u ls
  ap : Apart v u
theorem Two.below {base : Nat} {w w' : World} {v u : Value} {rs ls : List Int} (h : Two base w v u rs ls) (hB : Below w.heap.size w w') : Two base w' v u rs ls := ⟨h.a.below hB, h.b.below hB, h.ap⟩
theorem Two.kp {base : Nat} {w w' : World} {v u : Value} {rs ls : List Int} {ex : List Nat} (h : Two base w v u rs ls) (hB : Kp ex w w') (he : ∀ k ∈ ex, k < base) : Two base w' v u rs ls :=
  ⟨h.a.kp hB (fun k hk e => by have := own_in h.a k (mem_exOf' e); have := he k hk; omega), h.b.kp hB (fun k hk e => by have := own_in h.b k (mem_exOf' e); have := he k hk; omega), h.ap⟩
theorem Two.kp2 {base B : Nat} {w w' : World} {v u : Value} {rs ls : List Int} {ex : List Nat} (h : Two base w v u rs ls) (hB : Kp ex w w') (hl : ∀ k ∈ exOf' v ++ exOf' u, k < B) (he : ∀ k ∈ ex, B ≤ k) : Two base w' v u rs ls :=
  ⟨h.a.kp hB (fun k hk e => by have := hl k (List.mem_append_left _ (mem_exOf' e)); have := he k hk; omega), h.b.kp hB (fun k hk e => by have := hl k (List.mem_append_right _ (mem_exOf' e)); have := he k hk; omega), h.ap⟩

set_option maxHeartbeats 8000000 in
theorem walk (w : World) (A : Option Addr) (cap : Nat) (ps : List Pt) (h : RdT encP 5 w A ps) (hc : ps.length ≤ cap) (hm : cap ≤ 9223372036854775807) :
    Calls Try.prog 4 #[.slice A ps.length cap] w fun e w' => e = .returned (.bool true) ∧ Below w.heap.size w w' := by
  have HR := Lib.hid h
  clear h
  obtain ⟨rs, ls, hrl⟩ : ∃ rs ls, (spOf ps).getD ([], []) = (rs, ls) := ⟨_, _, rfl⟩
  have hlen := spOf_len hrl
  obtain ⟨hl1, hl2⟩ := hlen
  have HRL := Lib.hid hrl
  obtain ⟨ok, hok⟩ : ∃ ok, (spOf ps).isSome = ok := ⟨_, rfl⟩
  have HI := Lib.hid (show ∀ W A c, RdT encP 5 W A ps → ps.length ≤ c → c ≤ 9223372036854775807 → Calls Try.prog 13 #[.slice A ps.length c] W fun e w' => ∃ v u, e = .returned (.tuple #[.agg #[v, u], .bool ok]) ∧ Two W.heap.size w' v u rs ls ∧ Below W.heap.size W w' from
    fun W A c h1 h2 h3 => (spaceOf_any W A c ps h1 h2 h3).mono fun e w' ⟨v, u, rs', ls', q1, q2, q3, q4, q5, q6⟩ => by
      rw [hrl] at q1; cases q1
      exact ⟨v, u, by rw [q2, hok], ⟨q3, q4, q5⟩, q6⟩)
  have HS := Lib.hid (show ∀ W A c, RdT encP 5 W A ps → ps.length ≤ c → c ≤ 9223372036854775807 → Calls Try.prog 14 #[.slice A ps.length c] W fun e w' => ∃ v u, e = .returned (.tuple #[.agg #[v, u], .bool ok]) ∧ Two W.heap.size w' v u rs ls ∧ Below W.heap.size W w' from
    fun W A c h1 h2 h3 => (specSpaceOf_any W A c ps h1 h2 h3).mono fun e w' ⟨v, u, rs', ls', q1, q2, q3, q4, q5, q6⟩ => by
      rw [hrl] at q1; cases q1
      exact ⟨v, u, by rw [q2, hok], ⟨q3, q4, q5⟩, q6⟩)
  clear hrl hok
  go_enter Try.func4, Try.ntmps4
  go_wp2_with fail
  refine Calls.mono (szPtrS_any _ A _ cap _ (by omega) (by omega) (by omega)) ?_
  rintro e w1 ⟨r, rfl, hr0, hr1, hr2, rfl⟩
  by_cases hneg : r < 0
  · go_wp2_with fail
    go_ret
    exact ⟨rfl, Below.refl _ _⟩
  have hn : ps.length ≤ 1048576 := by have := hr2 (by omega); omega
  clear hr2
  have HT := Lib.hid (fun W (hB : Below w.heap.size w W) => toPtrS_any W A cap ps (HR.out.below hB) hc hn)
  -- the reference
  go_wp2_with fail
  refine Calls.mono (HT.out _ (Below.refl _ _)) ?_
  rintro e w2 ⟨v, rfl, hO, hB⟩
  obtain ⟨A2, c2, rfl, hc2, hm2, _, hr⟩ := hO.form
  have R2 := Lib.hid hr
  have HB2 := Lib.hid hB
  clear hB hO hr
  go_wp2_with fail
  refine Calls.mono (HS.out _ _ _ R2.out hc2 hm2) ?_
  rintro e w3 ⟨v3, u3, rfl, hT, hB⟩
  have T3 := Lib.hid hT
  have HB3 := Lib.hid (below_below HB2.out hB)
  have hT3 : ∀ k ∈ exOf' v3 ++ exOf' u3, k < w3.heap.size := fun k hk => by
    rcases List.mem_append.1 hk with hk | hk
    · exact (own_in hT.a k hk).2
    · exact (own_in hT.b k hk).2
  have TL := Lib.hid hT3
  obtain ⟨A3, c3, rfl, hc3, hm3, _, _⟩ := hT.a.form
  obtain ⟨B3, d3, rfl, hd3, hn3, _, _⟩ := hT.b.form
  clear hB hT hT3 R2
  have BX3 := Lib.hid (box_new w3 #[.slice A3 rs.length c3, .slice B3 ls.length d3] 27)
  have hBa := below_alloc (Below.refl w3.heap.size w3) (.cells #[.slice A3 rs.length c3, .slice B3 ls.length d3] 27)
  have T3a := Lib.hid (T3.out.below hBa)
  have HB3a := Lib.hid (below_below HB3.out hBa)
  have hw3 := HB3.out.size
  clear hBa T3 HB3
  -- the program's
  go_wp2_with fail
  refine Calls.mono (HT.out _ HB3a.out) ?_
  rintro e w4 ⟨v, rfl, hO, hB⟩
  obtain ⟨A4, c4, rfl, hc4, hm4, _, hr⟩ := hO.form
  have X4 := Lib.hid hO
  have hs4 : w3.heap.size < w4.heap.size := by have := hB.size; rw [World.size_alloc] at this; omega
  have XB := Lib.hid (show ∀ k ∈ exOf' (.slice A4 ps.length c4), w3.heap.size < k ∧ k < w4.heap.size from fun k hk => by have := own_in hO k hk; rw [World.size_alloc] at this; omega)
  have R4 := Lib.hid hr
  have BX4 := Lib.hid (BX3.out.below hB)
  have T4 := Lib.hid (T3a.out.below hB)
  have HB4 := Lib.hid (below_below HB3a.out hB)
  clear hB hO hr BX3 T3a HB3a
  go_wp2_with fail
  refine Calls.mono (HI.out _ _ _ R4.out hc4 hm4) ?_
  rintro e w5 ⟨v5, u5, rfl, hT, hB⟩
  obtain ⟨A5, c5, rfl, hc5, hm5, _, _⟩ := hT.a.form
  obtain ⟨B5, d5, rfl, hd5, hn5, _, _⟩ := hT.b.form
  have hs5 : w4.heap.size ≤ w5.heap.size := hB.size
  have GL := Lib.hid (show ∀ k ∈ exOf' (.slice A5 rs.length c5) ++ exOf' (.slice B5 ls.length d5), w4.heap.size ≤ k ∧ k < w5.heap.size from fun k hk => by
    rcases List.mem_append.1 hk with hk | hk
    · exact own_in hT.a k hk
    · exact own_in hT.b k hk)
  have hBa := below_alloc (Below.refl w5.heap.size w5) (.cells #[.slice A5 rs.length c5, .slice B5 ls.length d5] 27)
  have G5 := Lib.hid (hT.below hBa)
  have BY5 := Lib.hid (box_new w5 #[.slice A5 rs.length c5, .slice B5 ls.length d5] 27)
  have BX5 := Lib.hid ((BX4.out.below hB).below hBa)
  have T5 := Lib.hid ((T4.out.below hB).below hBa)
  have X5 := Lib.hid ((X4.out.below hB).below hBa)
  have HB5 := Lib.hid (below_below (below_below HB4.out hB) hBa)
  have bx5 := BX5.out.cell
  have by5 := BY5.out.cell
  have hl35 : w3.heap.size < w5.heap.size := by omega
  clear hB hT hBa BX4 T4 X4 R4 HB4
  have eok : (ok != ok) = false := by simp
  go_wp2_with fail
  refine Calls.mono (eqSpace_true _ A5 B5 A3 B3 c5 d5 c3 d3 rs ls (own_rdG G5.out.a).1 (own_rdG G5.out.b).1 (own_rdG T5.out.a).1 (own_rdG T5.out.b).1 hc5 hd5 hc3 hd3 hm5 hn5) ?_
  rintro e w6 ⟨rfl, hB⟩
  have BX6 := Lib.hid (BX5.out.below hB)
  have BY6 := Lib.hid (BY5.out.below hB)
  have T6 := Lib.hid (T5.out.below hB)
  have G6 := Lib.hid (G5.out.below hB)
  have X6 := Lib.hid (X5.out.below hB)
  have HB6 := Lib.hid (below_below HB5.out hB)
  have bx6 := BX6.out.cell
  have by6 := BY6.out.cell
  have hla6 := BX6.out.lt
  have hlb6 := BY6.out.lt
  clear hB BX5 BY5 T5 G5 X5 HB5 bx5 by5
  go_wp2_with fail
  refine Calls.mono (HT.out _ HB6.out) ?_
  rintro e w7 ⟨v, rfl, hO, hB⟩
  obtain ⟨A7, c7, rfl, hc7, hm7, _, hr⟩ := hO.form
  have R7 := Lib.hid hr
  have BX7 := Lib.hid (BX6.out.below hB)
  have BY7 := Lib.hid (BY6.out.below hB)
  have T7 := Lib.hid (T6.out.below hB)
  have G7 := Lib.hid (G6.out.below hB)
  have X7 := Lib.hid (X6.out.below hB)
  have HB7 := Lib.hid (below_below HB6.out hB)
  have bx7 := BX7.out.cell
  have by7 := BY7.out.cell
  have hla7 := BX7.out.lt
  have hlb7 := BY7.out.lt
  clear hO hr
  clear hB BX6 BY6 T6 G6 X6 HB6 bx6 by6 hla6 hlb6
  go_wp2_with fail
  refine Calls.mono (eqPtrS_true _ A4 A7 c4 c7 ps (own_rdG X7.out).1 R7.out hc4 hc7 hm4) ?_
  rintro e w8 ⟨rfl, hB⟩
  have BX8 := Lib.hid (BX7.out.below hB)
  have BY8 := Lib.hid (BY7.out.below hB)
  have T8 := Lib.hid (T7.out.below hB)
  have G8 := Lib.hid (G7.out.below hB)
  have X8 := Lib.hid (X7.out.below hB)
  have HB8 := Lib.hid (below_below HB7.out hB)
  have bx8 := BX8.out.cell
  have by8 := BY8.out.cell
  have hla8 := BX8.out.lt
  have hlb8 := BY8.out.lt
  clear hB BX7 BY7 T7 G7 X7 HB7 R7 bx7 by7 hla7 hlb7
  go_wp2_with fail
  refine Calls.mono (markPtrS_any _ _ _ 1 ps X8.out hn (by omega)) ?_
  rintro e w9 ⟨rfl, _, hK⟩
  have hx9 : ∀ k ∈ exP (.slice A4 ps.length c4), w3.heap.size < k ∧ k < w4.heap.size := XB.out
  have BX9 := Lib.hid (BX8.out.kp hK (fun hm => by have := hx9 _ hm; omega))
  have BY9 := Lib.hid (BY8.out.kp hK (fun hm => by have := hx9 _ hm; omega))
  have T9 := Lib.hid (T8.out.kp2 hK TL.out (fun k hk => by have := hx9 k hk; omega))
  have G9 := Lib.hid (G8.out.kp hK (fun k hk => (hx9 k hk).2))
  have HB9 := Lib.hid (below_kp HB8.out hK (fun k hk => by have := hx9 k hk; omega))
  have hk9 : ¬ ((1 + 5 * ps.length : Nat) : Int) < 0 := by omega
  generalize 1 + 5 * ps.length = kk at hk9 ⊢
  have bx9 := BX9.out.cell
  have by9 := BY9.out.cell
  have hla9 := BX9.out.lt
  have hlb9 := BY9.out.lt
  clear hK hx9 BX8 BY8 T8 G8 X8 HB8 bx8 by8 hla8 hlb8
  go_wp2_with fail
  refine Calls.mono (eqSpace_true _ A5 B5 A3 B3 c5 d5 c3 d3 rs ls (own_rdG G9.out.a).1 (own_rdG G9.out.b).1 (own_rdG T9.out.a).1 (own_rdG T9.out.b).1 hc5 hd5 hc3 hd3 hm5 hn5) ?_
  rintro e w10 ⟨rfl, hB⟩
  have BX10 := Lib.hid (BX9.out.below hB)
  have BY10 := Lib.hid (BY9.out.below hB)
  have T10 := Lib.hid (T9.out.below hB)
  have G10 := Lib.hid (G9.out.below hB)
  have HB10 := Lib.hid (below_below HB9.out hB)
  have bx10 := BX10.out.cell
  have by10 := BY10.out.cell
  have hla10 := BX10.out.lt
  have hlb10 := BY10.out.lt
  clear hB BX9 BY9 T9 G9 HB9 bx9 by9 hla9 hlb9
  go_wp2_with fail
  refine Calls.mono (markSpace_any _ _ A5 B5 c5 d5 1 rs ls G10.out.a G10.out.b G10.out.ap (by omega) (by omega) (by omega)) ?_
  rintro e w11 ⟨rfl, hm1, hm2, hK⟩
  have hg11 := GL.out
  have BX11 := Lib.hid (BX10.out.kp hK (fun hm => by have := hg11 _ hm; omega))
  have BY11 := Lib.hid (BY10.out.kp hK (fun hm => by have := hg11 _ hm; omega))
  have T11 := Lib.hid (T10.out.kp2 hK TL.out (fun k hk => by have := hg11 k hk; omega))
  have M11 := Lib.hid (And.intro hm1 hm2)
  have HB11 := Lib.hid (below_kp HB10.out hK (fun k hk => by have := hg11 k hk; omega))
  have bx11 := BX11.out.cell
  have by11 := BY11.out.cell
  have hla11 := BX11.out.lt
  have hlb11 := BY11.out.lt
  clear hK hg11 hm1 hm2 BX10 BY10 T10 G10 HB10 bx10 by10 hla10 hlb10
  have hq0 : ¬ ((1 + rs.length + ls.length : Nat) : Int) < 0 := by omega
  have HSP := Lib.hid (fun W (h1 : RdT encN 1 W A5 (markN 1 rs.length)) (h2 : RdT encN 1 W B5 (markN (1 + rs.length) ls.length)) => heldSpace_any W A5 B5 c5 d5 rs.length ls.length 1 h1 h2 hc5 hd5 (by omega) (by omega) (by omega))
  have hMN : (markN 1 rs.length).length = rs.length := markN_length _ _
  have hMN2 : (markN (1 + rs.length) ls.length).length = ls.length := markN_length _ _
  generalize 1 + rs.length + ls.length = qq at hq0 HSP ⊢
  have eqq : ((qq : Int) != (qq : Int)) = false := by simp

  have RM11 := Lib.hid (And.intro (own_rdG M11.out.1).1 (own_rdG M11.out.2).1)
  clear M11
  go_wp2_with fail
  refine Calls.mono (HSP.out _ RM11.out.1 RM11.out.2) ?_
  rintro e w12 ⟨rfl, hB⟩
  have RM12 := Lib.hid (And.intro (RM11.out.1.below hB) (RM11.out.2.below hB))
  have BX12 := Lib.hid (BX11.out.below hB)
  have BY12 := Lib.hid (BY11.out.below hB)
  have T12 := Lib.hid (T11.out.below hB)
  have HB12 := Lib.hid (below_below HB11.out hB)
  have bx12 := BX12.out.cell
  have by12 := BY12.out.cell
  have hla12 := BX12.out.lt
  have hlb12 := BY12.out.lt
  clear hB BX11 BY11 T11 HB11 RM11 bx11 by11 hla11 hlb11
  go_wp2_with fail
  refine Calls.mono (HT.out _ HB12.out) ?_
  rintro e w13 ⟨v, rfl, hO, hB⟩
  obtain ⟨A13, c13, rfl, hc13, hm13, _, hr⟩ := hO.form
  have R13 := Lib.hid hr
  have RM13 := Lib.hid (And.intro (RM12.out.1.below hB) (RM12.out.2.below hB))
  have BX13 := Lib.hid (BX12.out.below hB)
  have BY13 := Lib.hid (BY12.out.below hB)
  have T13 := Lib.hid (T12.out.below hB)
  have HB13 := Lib.hid (below_below HB12.out hB)
  have bx13 := BX13.out.cell
  have by13 := BY13.out.cell
  have hla13 := BX13.out.lt
  have hlb13 := BY13.out.lt
  clear hO hr
  clear hB BX12 BY12 T12 HB12 RM12 bx12 by12 hla12 hlb12
  go_wp2_with fail
  refine Calls.mono (HI.out _ _ _ R13.out hc13 hm13) ?_
  rintro e w14 ⟨v14, u14, rfl, hT, hB⟩
  obtain ⟨A14, c14, rfl, hc14, hm14, _, _⟩ := hT.a.form
  obtain ⟨B14, d14, rfl, hd14, hn14, _, _⟩ := hT.b.form
  have hBa := below_alloc (Below.refl w14.heap.size w14) (.cells #[.slice A14 rs.length c14, .slice B14 ls.length d14] 27)
  have hs14 := hB.size
  have H14 := Lib.hid (hT.below hBa)
  have BX14 := Lib.hid ((BX13.out.below hB).below hBa)
  have BY14 := Lib.hid ((BY13.out.below hB).below hBa)
  have T14 := Lib.hid ((T13.out.below hB).below hBa)
  have RM14 := Lib.hid (And.intro ((RM13.out.1.below hB).below hBa) ((RM13.out.2.below hB).below hBa))
  have HB14 := Lib.hid (below_below (below_below HB13.out hB) hBa)
  have bx14 := BX14.out.cell
  have by14 := BY14.out.cell
  have hla14 : w3.heap.size < w14.heap.size := by omega
  have hlb14 : w5.heap.size < w14.heap.size := by omega
  clear hB hT hBa hs14 BX13 BY13 T13 RM13 R13 HB13 bx13 by13 hla13 hlb13
  go_wp2_with fail
  refine Calls.mono (eqSpace_true _ A14 B14 A3 B3 c14 d14 c3 d3 rs ls (own_rdG H14.out.a).1 (own_rdG H14.out.b).1 (own_rdG T14.out.a).1 (own_rdG T14.out.b).1 hc14 hd14 hc3 hd3 hm14 hn14) ?_
  rintro e w15 ⟨rfl, hB⟩
  have RM15 := Lib.hid (And.intro (RM14.out.1.below hB) (RM14.out.2.below hB))
  have BX15 := Lib.hid (BX14.out.below hB)
  have BY15 := Lib.hid (BY14.out.below hB)
  have T15 := Lib.hid (T14.out.below hB)
  have HB15 := Lib.hid (below_below HB14.out hB)
  have bx15 := BX15.out.cell
  have by15 := BY15.out.cell
  have hla15 := BX15.out.lt
  have hlb15 := BY15.out.lt
  clear hB BX14 BY14 T14 HB14 RM14 H14 bx14 by14 hla14 hlb14
  go_wp2_with fail
  refine Calls.mono (HSP.out _ RM15.out.1 RM15.out.2) ?_
  rintro e w16 ⟨rfl, hB⟩
  have RM16 := Lib.hid (And.intro (RM15.out.1.below hB) (RM15.out.2.below hB))
  have BX16 := Lib.hid (BX15.out.below hB)
  have BY16 := Lib.hid (BY15.out.below hB)
  have T16 := Lib.hid (T15.out.below hB)
  have HB16 := Lib.hid (below_below HB15.out hB)
  have bx16 := BX16.out.cell
  have by16 := BY16.out.cell
  have hla16 := BX16.out.lt
  have hlb16 := BY16.out.lt
  clear hB BX15 BY15 T15 HB15 RM15 bx15 by15 hla15 hlb15
  go_wp2_with fail
  go_ret
  exact ⟨rfl, HB16.out⟩

set_option maxRecDepth 100000 in
theorem lifted (os : Os) (started : os.Started) (H : Type) (enc : TypeId × Value → H) :
    ReturnsInHanded {} Try.checked os 4 .any (Rows.fnExactSpaceOfSpec.pre6 enc Try.prog Try.f4 Rows.fnExactSpaceOfRow.domain false) (Rows.fnExactSpaceOfSpec.post enc Try.prog Try.f4 false true false false) := by
  refine returnsInHanded_of_change (C := Try.checked) own started (by kernel_rfl) Try.func4
    (ChangeSpec.witness6 (enc := enc) (C := Try.checked) false ⟨#[], #[.slice none 0 0], []⟩ 8 (by kernel_rfl) (by kernel_rfl) (by kernel_rfl) (by kernel_rfl)) ?_
  intro W base args ds gs before hval0 hW hcnd _
  have hval : ∀ (j : Nat) t v, Try.f4.params[j]? = some t → args[j]? = some v → Value.okWide Try.prog W .any base t v := hval0
  have hW' := hW
  obtain ⟨p, q, hA, hV, rfl, hfz, hnd⟩ := hW
  obtain ⟨rfl, rfl⟩ := trodVars_none hV
  have hA0 : DataW.TrodAll enc Try.prog W 0 (fun _ => true) true Try.f4.params.toList args.toList ds p := hA
  rw [Try.params4] at hA0 hval
  obtain ⟨v0, vs0, d0, ds0, p0, q0, hargs, rfl, rfl, h0, r0⟩ := trodAll_cons hA0
  obtain ⟨rfl, rfl, rfl⟩ := trodAll_nil r0
  obtain rfl : args = #[v0] := by cases args; simp_all
  obtain ⟨cA, cc, c, rfl, chc, chm, cr⟩ := open_ptrs' (hval 0 32 v0 rfl rfl) h0
  refine (walk W cA cc c cr chc chm).mono fun e W' ⟨he, bel⟩ => ?_
  subst he
  exact ⟨_, rfl, law_post rfl (by kernel_rfl) (params_ok (by kernel_rfl)) hW' rfl rfl rfl bel⟩

theorem proved : Rows.FnExactSpaceOfSaid :=
  OpenClaim.holds_of_wide 4 Try.f4 rfl rfl rfl rfl rfl rfl rfl ⟨rfl, rfl, rfl, rfl, rfl⟩ rfl rfl rfl rfl rfl (by kernel_rfl) Try.func4 (by kernel_rfl)
    (of_decide_eq_true (by kernel_rfl)) (by unfold Func.isWrapper; first | (rw [if_pos (by decide +kernel)]; kernel_rfl) | (rw [if_neg (by decide +kernel)]; exact ⟨rfl, rfl⟩))
    (fun os started H enc _ => lifted os started H enc)

end Go.Proofs.Ytomofiklodojeaa.lawExactSpaceOf
