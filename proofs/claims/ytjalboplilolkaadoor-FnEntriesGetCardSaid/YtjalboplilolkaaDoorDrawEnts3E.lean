/- What the laws on the texts of entries draw: a list. -/
import Derived.Test.YtjalboplilolkaaDoorDrawEnts2
namespace Go.Proofs.YtjalboplilolkaaDoor
open Go.RowKit
set_option linter.unusedVariables false
set_option linter.unusedSimpArgs false

def EntsL (w : World) (e : Ending) (w' : World) : Prop := ∃ (v : Value) (l : List Ent), e = .returned v ∧ Own encE 2 76 w.heap.size w' v l ∧ l.length ≤ 13 ∧ (∀ x ∈ l, x.name.size ≤ 100) ∧ Below w.heap.size w w'
theorem drawEntriesOk_any (w : World) (A : Option Addr) (cap : Nat) (zs : List Int) (h : RdT (encI .u8) 1 w A zs) (hb : ∀ z ∈ zs, 0 ≤ z ∧ z ≤ 255) (hc : zs.length ≤ cap) (hm : cap ≤ 9223372036854775807) :
    Calls Tryd.prog 18 #[.slice A zs.length cap] w (EntsL w) := by
  have HO := Lib.hid (open_any w A cap zs h hb hc hm)
  clear h hb
  generalize zs.length = n at HO hc ⊢
  go_enter Tryd.func18, Tryd.ntmps18
  go_wp2_with fail
  refine Calls.mono HO.out ?_
  rintro e w1 ⟨rfl, hr, hB⟩
  have HB := Lib.hid hB
  have hsz := hB.size
  clear hB
  go_wp2_with fail
  refine Calls.mono (l92Entries_any _ _ _ hr (by omega)) ?_
  rintro e w2 ⟨v, l, q, rfl, hln, hq, hT⟩
  have HT := Lib.hid hT
  clear hT
  go_wp2_with fail
  go_ret
  exact ⟨v, l, rfl, HT.out.1.more hsz, hln, HT.out.2.1, kp_belowE HB.out HT.out.2.2.2 (Nat.le_refl _)⟩
theorem drawEntriesPut_any (w : World) (A : Option Addr) (cap : Nat) (zs : List Int) (h : RdT (encI .u8) 1 w A zs) (hb : ∀ z ∈ zs, 0 ≤ z ∧ z ≤ 255) (hc : zs.length ≤ cap) (hm : cap ≤ 9223372036854775807) :
    Calls Tryd.prog 21 #[.slice A zs.length cap] w (EntsL w) := by
  have HO := Lib.hid (open_any w A cap zs h hb hc hm)
  clear h hb
  generalize zs.length = n at HO hc ⊢
  go_enter Tryd.func21, Tryd.ntmps21
  go_wp2_with fail
  refine Calls.mono HO.out ?_
  rintro e w1 ⟨rfl, hr, hB⟩
  have HB := Lib.hid hB
  have hsz := hB.size
  clear hB
  go_wp2_with fail
  refine Calls.mono (l92Entries_any _ _ _ hr (by omega)) ?_
  rintro e w2 ⟨v, l, q, rfl, hln, hq, hT⟩
  have HT := Lib.hid hT
  clear hT
  go_wp2_with fail
  go_ret
  exact ⟨v, l, rfl, HT.out.1.more hsz, hln, HT.out.2.1, kp_belowE HB.out HT.out.2.2.2 (Nat.le_refl _)⟩

end Go.Proofs.YtjalboplilolkaaDoor
