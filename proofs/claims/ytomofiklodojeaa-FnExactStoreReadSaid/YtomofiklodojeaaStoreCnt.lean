/- The closure of the program's StoreOk: pointers counted. -/
import Derived.Test.YtomofiklodojeaaStoreP
import Derived.Test.YtomofiklodojeaaSpaceOfI
namespace Go.Proofs.Ytomofiklodojeaa
open Go.RowKit
set_option maxRecDepth 100000
set_option linter.unusedVariables false
set_option linter.unusedSimpArgs false

/-- A pointer that counts. -/
def badP (top : Int) (refs : List Int) (p : Pt) : Prop := goneB top p = false ∨ (8 ≤ p.at_ ∧ p.at_ ≤ 63 ∧ refs.getD p.at_.toNat 0 = 0)
def CntPost (base : Nat) (w : World) (b : Nat) (refs : List Int) (top : Int) (pre xs : List Pt) (e : Ending) (w' : World) : Prop :=
  ∃ ok : Bool, e = .returned (.bool ok) ∧ (ok = true → (∀ p ∈ xs, goneB top p = true) ∧ Own encN 1 3 base w' (.slice (some ⟨b, 0, none⟩) 64 64) (cntRow (pre ++ xs))) ∧ (ok = false → ∃ p ∈ xs, badP top refs p) ∧ Kp [b] w w'

structure CntAt (base : Nat) (w : World) (b : Nat) (top : Int) (pre xs : List Pt) (k : Nat) (wr : World) : Prop where
  ok : ∀ p ∈ xs.take k, goneB top p = true
  own : Own encN 1 3 base wr (.slice (some ⟨b, 0, none⟩) 64 64) (cntRow (pre ++ xs.take k))
  kp : Kp [b] w wr

theorem kp_trans_below {ex : List Nat} {w W W' : World} (h : Kp ex w W) (hB : Below W.heap.size W W') : Kp ex w W' := h.trans ((Kp.of_below hB).all ex)
theorem take_push {α : Type} {xs : List α} {k : Nat} {p : α} (he : xs[k]? = some p) : xs.take (k + 1) = xs.take k ++ [p] := by
  rw [List.take_add_one, he]; rfl

set_option maxHeartbeats 2000000 in
theorem count_any (base : Nat) (w : World) (G A : Option Addr) (cG cA : Nat) (xs pre : List Pt) (refs : List Int) (top : Int) (sb ob b : Nat) (v0 v2 v3 v4 v5 v6 v7 : Value)
    (h : RdT encP 5 w G xs) (hm : xs.length ≤ 1048576) (hp : pre.length ≤ 1048576)
    (hS : BoxAt w sb #[v0, .slice A 64 cA, v2, v3, v4, v5, v6, v7] 47) (hA : RdT encN 1 w A refs) (hl : refs.length = 64)
    (hO : BoxAt w ob #[.slice (some ⟨b, 0, none⟩) 64 64] 25) (hR : Own encN 1 3 base w (.slice (some ⟨b, 0, none⟩) 64 64) (cntRow pre))
    (n1 : sb ≠ b) (n2 : ob ≠ b) (n3 : 0 < xs.length → ∀ a, G = some a → a.block ≠ b) (n4 : ∀ a, A = some a → a.block ≠ b) :
    Calls Try.prog 76 #[.slice G xs.length cG, .int .i64 top, .pointer (some ⟨sb, 0, none⟩), .pointer (some ⟨ob, 0, none⟩)] w (CntPost base w b refs top pre xs) := by
  have HG := Lib.hid (fun wr (hk : Kp [b] w wr) => h.kp hk (fun h0 a ha hm => n3 h0 a ha (by simpa using hm)))
  have HA := Lib.hid (fun wr (hk : Kp [b] w wr) => hA.kp hk (fun _ a ha hm => n4 a ha (by simpa using hm)))
  have HS := Lib.hid (fun wr (hk : Kp [b] w wr) => hS.kp hk (by simpa using n1))
  have HO := Lib.hid (fun wr (hk : Kp [b] w wr) => hO.kp hk (by simpa using n2))
  have HR := Lib.hid hR
  have HL := Lib.hid hl
  have HP := Lib.hid hp
  obtain ⟨ba, oa, rfl, _, _⟩ := num_at (k := 0) hA (by omega)
  have hlt0 : b < w.heap.size := (own_in hR b (by simp [exOf', Value.ownBlock])).2
  clear h hS hA hO hR hl hp n3 n4
  go_enter Try.func76, Try.ntmps76
  go_wp2_with fail
  go_loopw [11] (fun i wr => ∃ k : Nat, k ≤ xs.length ∧ i = .int .i64 k ∧ Hid (CntAt base w b top pre xs k wr)) (fun i _ => xs.length - (intOf i).toNat)
  case atStart => exact ⟨0, Nat.zero_le _, rfl, Lib.hid ⟨by simp, by simpa using HR.out, Kp.refl _ _⟩⟩
  case round =>
    obtain ⟨k, hk, rfl, HC⟩ := hrel
    have hs := (HS.out wr HC.out.kp).cell
    have hsl := (HS.out wr HC.out.kp).lt
    have ho := (HO.out wr HC.out.kp).cell
    have hol := (HO.out wr HC.out.kp).lt
    have hwb := HC.out.kp.size
    by_cases hlt : k < xs.length
    · obtain ⟨b1, off, p, rfl, hb, he, c0, c1, c2, c3, c4⟩ := (HG.out wr HC.out.kp).ptr hlt
      have HE := Lib.hid he
      have HM := Lib.hid (List.mem_of_getElem? he)
      have HPO := Lib.hid (ptrOk_any p)
      have HH := Lib.hid (ptrHole_any p)
      have HPV := Lib.hid (show p.v = .agg #[.int .i64 p.at_, .int .i64 p.birth, .int .i64 p.size, .int .i64 p.sum, .int .i64 p.level] from rfl)
      rw [HPV.out] at HPO HH
      clear he
      have hBp := below_alloc (Below.refl wr.heap.size wr) (.cells #[.int .i64 p.at_, .int .i64 p.birth, .int .i64 p.size, .int .i64 p.sum, .int .i64 p.level] 41)
      have BXp := Lib.hid (box_new wr #[.int .i64 p.at_, .int .i64 p.birth, .int .i64 p.size, .int .i64 p.sum, .int .i64 p.level] 41)
      have KPp := Lib.hid (kp_trans_below HC.out.kp hBp)
      have OWp := Lib.hid (HC.out.own.below hBp)
      clear hBp
      cases hok : ptrB p
      · rw [hok] at HPO
        have E := Lib.hid (show badP top refs p from .inl (gone_no (.inl hok)))
        clear hok
        go_wp2_with fail
        refine Calls.mono (HPO.out _) ?_
        rintro e w2 ⟨rfl, hB⟩
        have K2 := Lib.hid (kp_trans_below KPp.out hB)
        clear hB
        go_wp2_with fail
        go_ret
        exact ⟨false, rfl, fun h => (by cases h), fun _ => ⟨p, HM.out, E.out⟩, K2.out⟩
      · rw [hok] at HPO
        cases hho : holeB p
        · rw [hho] at HH
          obtain ⟨hp1, hp2, hp3, hp4⟩ := ptr_in hok hho
          by_cases hbt : p.birth ≤ top
          · have HY := Lib.hid (gone_yes hok hho hbt)
            obtain ⟨rv, hrv⟩ : ∃ rv, refs.getD p.at_.toNat 0 = rv := ⟨_, rfl⟩
            by_cases hz : rv = 0
            · have E := Lib.hid (show badP top refs p from .inr ⟨hp1, hp2, hrv.trans hz⟩)
              subst hz
              clear hok hho
              go_wp2_with fail
              refine Calls.mono (HPO.out _) ?_
              rintro e w2 ⟨rfl, hB⟩
              have K2 := Lib.hid (kp_trans_below KPp.out hB)
              have BX2 := Lib.hid (BXp.out.below hB)
              have bx2 := BX2.out.cell
              clear hB
              go_wp2_with fail
              refine Calls.mono (HH.out _) ?_
              rintro e w3 ⟨rfl, hB⟩
              have K3 := Lib.hid (kp_trans_below K2.out hB)
              have BX3 := Lib.hid (BX2.out.below hB)
              have bx3 := BX3.out.cell
              have hs3 := (HS.out w3 K3.out).cell
              obtain ⟨bq, oq, hq1, hq2, hq3⟩ := num_at (k := p.at_.toNat) (HA.out w3 K3.out) (by rw [HL.out]; omega)
              cases hq1
              rw [hrv] at hq3
              have hp0 : (0 : Int) ≤ p.at_ := by omega
              have hp64 : p.at_ < 64 := by omega
              clear hB bx2 hrv hs ho
              go_wp2_with fail
              go_ret
              exact ⟨false, rfl, fun h => (by cases h), fun _ => ⟨p, HM.out, E.out⟩, K3.out⟩
            · have hz1 : (rv == 0) = false := by simpa using hz
              clear hok hho hz
              go_wp2_with fail
              refine Calls.mono (HPO.out _) ?_
              rintro e w2 ⟨rfl, hB⟩
              have K2 := Lib.hid (kp_trans_below KPp.out hB)
              have BX2 := Lib.hid (BXp.out.below hB)
              have bx2 := BX2.out.cell
              have O2 := Lib.hid (OWp.out.below hB)
              clear hB
              go_wp2_with fail
              refine Calls.mono (HH.out _) ?_
              rintro e w3 ⟨rfl, hB⟩
              have K3 := Lib.hid (kp_trans_below K2.out hB)
              have BX3 := Lib.hid (BX2.out.below hB)
              have bx3 := BX3.out.cell
              have hs3 := (HS.out w3 K3.out).cell
              have ho3 := (HO.out w3 K3.out).cell
              have O3 := Lib.hid (O2.out.below hB)
              obtain ⟨bq, oq, hq1, hq2, hq3⟩ := num_at (k := p.at_.toNat) (HA.out w3 K3.out) (by rw [HL.out]; omega)
              cases hq1
              rw [hrv] at hq3
              have hc3 : w3.cell? ⟨b, p.at_.toNat, none⟩ = some (.int .i64 (cnt (pre ++ xs.take k) p.at_.toNat)) := by
                obtain ⟨bq, oq, hq1, hq2, hq3⟩ := num_at (k := p.at_.toNat) (own_rdG O3.out).1 (by rw [cntRow_len]; omega)
                cases hq1
                rw [Nat.zero_add, cntRow_get _ (by omega)] at hq3
                exact hq3
              have hf3 : w3.frozen? ⟨b, p.at_.toNat, none⟩ = false := own_frozG O3.out _
              have hp0 : (0 : Int) ≤ p.at_ := by omega
              have hp64 : p.at_ < 64 := by omega
              have HN := Lib.hid (show Own encN 1 3 base (w3.setCell ⟨b, p.at_.toNat, none⟩ (.int .i64 (cnt (pre ++ xs.take k) p.at_.toNat + 1))) (.slice (some ⟨b, 0, none⟩) 64 64) (cntRow (pre ++ xs.take (k + 1))) by
                rw [take_push HE.out, ← List.append_assoc, cntRow_push _ hp0 hp64]
                exact own_setN O3.out p.at_.toNat _ (by omega))
              have HOK := Lib.hid (show ∀ q ∈ xs.take (k + 1), goneB top q = true by
                rw [take_push HE.out]
                intro q hq
                rcases List.mem_append.1 hq with hq | hq
                · exact HC.out.ok q hq
                · rw [List.mem_singleton.1 hq]; exact HY.out)
              have hcb : 0 ≤ cnt (pre ++ xs.take k) p.at_.toNat ∧ cnt (pre ++ xs.take k) p.at_.toNat ≤ 4194304 := by
                refine ⟨cnt_nn _ _, ?_⟩
                have h1 := cnt_le (pre ++ xs.take k) p.at_.toNat
                have h2 := HP.out
                rw [List.length_append, List.length_take] at h1
                omega
              obtain ⟨hcb0, hcb1⟩ := hcb
              generalize cnt (pre ++ xs.take k) p.at_.toNat = cv at *
              clear hB bx2 hrv hs ho
              go_wp2_with fail
              go_roundw
              case rel => exact ⟨k + 1, by omega, by go_num, Lib.hid ⟨HOK.out, HN.out, K3.out.setCell (.inl (by simp)) _⟩⟩
              case measure => simp [intOf]; omega
          · have E := Lib.hid (show badP top refs p from .inl (gone_no (.inr (.inr (by omega)))))
            clear hok hho
            go_wp2_with fail
            refine Calls.mono (HPO.out _) ?_
            rintro e w2 ⟨rfl, hB⟩
            have K2 := Lib.hid (kp_trans_below KPp.out hB)
            have BX2 := Lib.hid (BXp.out.below hB)
            have bx2 := BX2.out.cell
            clear hB
            go_wp2_with fail
            refine Calls.mono (HH.out _) ?_
            rintro e w3 ⟨rfl, hB⟩
            have K3 := Lib.hid (kp_trans_below K2.out hB)
            have BX3 := Lib.hid (BX2.out.below hB)
            have bx3 := BX3.out.cell
            clear hB bx2 hs ho
            go_wp2_with fail
            go_ret
            exact ⟨false, rfl, fun h => (by cases h), fun _ => ⟨p, HM.out, E.out⟩, K3.out⟩
        · rw [hho] at HH
          have E := Lib.hid (show badP top refs p from .inl (gone_no (.inr (.inl hho))))
          clear hok hho
          go_wp2_with fail
          refine Calls.mono (HPO.out _) ?_
          rintro e w2 ⟨rfl, hB⟩
          have K2 := Lib.hid (kp_trans_below KPp.out hB)
          have BX2 := Lib.hid (BXp.out.below hB)
          have bx2 := BX2.out.cell
          clear hB
          go_wp2_with fail
          refine Calls.mono (HH.out _) ?_
          rintro e w3 ⟨rfl, hB⟩
          have K3 := Lib.hid (kp_trans_below K2.out hB)
          clear hB bx2 hs ho
          go_wp2_with fail
          go_ret
          exact ⟨false, rfl, fun h => (by cases h), fun _ => ⟨p, HM.out, E.out⟩, K3.out⟩
    · obtain rfl : k = xs.length := by omega
      go_wp2_with fail
      go_ret
      refine ⟨true, rfl, fun _ => ⟨?_, ?_⟩, fun h => (by cases h), HC.out.kp⟩
      · have := HC.out.ok
        rw [List.take_length] at this
        exact this
      · have := HC.out.own
        rw [List.take_length] at this
        exact this

end Go.Proofs.Ytomofiklodojeaa
