/- What the law on reading entries draws: a text. -/
import Derived.Test.YtjalboplilolkaaDoorDrawEnts3E
import Derived.Test.YtjalboplilolkaaDoorDrawSpoil
import Derived.Test.YtjalboplilolkaaDoorEntText
namespace Go.Proofs.YtjalboplilolkaaDoor
open Go.RowKit
set_option linter.unusedVariables false
set_option linter.unusedSimpArgs false

def StrB (n : Nat) (w : World) (e : Ending) (w' : World) : Prop := ∃ s : ByteArray, e = .returned (.string s) ∧ s.size ≤ n ∧ Below w.heap.size w w'
theorem drawEntriesGet_any (w : World) (A : Option Addr) (cap : Nat) (zs : List Int) (h : RdT (encI .u8) 1 w A zs) (hb : ∀ z ∈ zs, 0 ≤ z ∧ z ≤ 255) (hc : zs.length ≤ cap) (hm : cap ≤ 9223372036854775807) :
    Calls Tryd.prog 13 #[.slice A zs.length cap] w (StrB 100 w) := by
  have HO := Lib.hid (open_any w A cap zs h hb hc hm)
  clear h hb
  generalize zs.length = n at HO hc ⊢
  go_enter Tryd.func13, Tryd.ntmps13
  go_wp2_with fail
  refine Calls.mono HO.out ?_
  rintro e w1 ⟨rfl, hr, hB⟩
  have HB := Lib.hid hB
  have hl1 := hr.lt
  clear hB HO
  go_wp2_with fail
  refine Calls.mono (l92Entries_any _ _ _ hr (by omega)) ?_
  rintro e w2 ⟨v, l, q, rfl, hln, hq, hT⟩
  obtain ⟨A2, c2, rfl, hc2, hm2, _, hrd⟩ := hT.1.form
  have HZ := Lib.hid hT.2.1
  have HP := Lib.hid (specEntriesPut_any w2 A2 c2 l hrd hc2 hm2 (fun e he => Nat.le_trans (HZ.out e he) (by omega)))
  have HB2 := Lib.hid (kp_belowE HB.out hT.2.2.2 (Nat.le_refl _))
  have HR2 := Lib.hid hT.2.2.1
  unfold PutE at HP
  have hS : (if entriesOkB l = true then entsT l else ⟨#[]⟩ : ByteArray).size ≤ 96 := by
    split
    · next hok => exact entsT_size hok
    · exact Nat.zero_le _
  clear hT hrd HB HZ
  generalize (if entriesOkB l = true then entsT l else ⟨#[]⟩ : ByteArray) = S at *
  go_wp2_with fail
  refine Calls.mono HP.out ?_
  rintro e w3 ⟨rfl, hB⟩
  have HB3 := Lib.hid (below_below HB2.out hB)
  have HR3 := Lib.hid (HR2.out.below hB)
  clear hB HB2 HR2
  go_wp2_with fail
  refine Calls.mono (pick_nat _ w.heap.size (0 + q) _ HR3.out (by omega) (by omega) (by omega)) ?_
  rintro e w4 ⟨k, rfl, hk, hr4, hk4⟩
  have HB4 := Lib.hid (kp_belowE HB3.out hk4 (Nat.le_refl _))
  clear hk4 hk HB3 HR3
  by_cases hk0 : k = 0
  · subst hk0
    go_wp2_with fail
    refine Calls.mono (l91Spoil_any _ w.heap.size (0 + q + 1) S hr4 (by omega) (by omega)) ?_
    rintro e w5 ⟨s, q5, rfl, hs, hr5, hq5, hk5⟩
    have HB5 := Lib.hid (kp_belowE HB4.out hk5 (Nat.le_refl _))
    clear hk5 hr5
    go_wp2_with fail
    go_ret
    exact ⟨s, rfl, by omega, HB5.out⟩
  · have hk0' : ((k : Int) == 0) = false := by simpa using hk0
    go_wp2_with fail
    go_ret
    exact ⟨S, rfl, by omega, HB4.out⟩

end Go.Proofs.YtjalboplilolkaaDoor
