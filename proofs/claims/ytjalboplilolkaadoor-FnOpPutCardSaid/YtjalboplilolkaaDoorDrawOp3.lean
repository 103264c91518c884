/- DrawOpPut: an operation drawn from a code. -/
import Derived.Test.YtjalboplilolkaaDoorDrawOp2
namespace Go.Proofs.YtjalboplilolkaaDoor
open Go.RowKit Go.Sort
set_option linter.unusedVariables false
set_option linter.unusedSimpArgs false

set_option maxHeartbeats 1600000 in
theorem drawOpPut_any (w : World) (A : Option Addr) (cap : Nat) (zs : List Int) (h : RdT (encI .u8) 1 w A zs) (hb : ∀ z ∈ zs, 0 ≤ z ∧ z ≤ 255) (hc : zs.length ≤ cap) (hm : cap ≤ 9223372036854775807) :
    Calls Tryd.prog 41 #[.slice A zs.length cap] w (OpDn w) := by
  have HO := Lib.hid (fun w h => open_any w A cap zs h hb hc hm)
  have hrd := below_alloc (Below.refl w.heap.size w) (.cells #[.int .i64 0, .string ⟨#[]⟩, .string ⟨#[]⟩, .int .i64 0, .string ⟨#[]⟩] 54)
  have H0 := Lib.hid hrd
  have R0 := Lib.hid (h.below hrd)
  have BX := box_new w #[.int .i64 0, .string ⟨#[]⟩, .string ⟨#[]⟩, .int .i64 0, .string ⟨#[]⟩] 54
  have BX0 := Lib.hid BX
  clear h hb hrd BX
  generalize zs.length = n at HO hc R0 ⊢
  go_enter Tryd.func41, Tryd.ntmps41
  go_wp2_with fail
  refine Calls.mono (HO.out _ R0.out) ?_
  rintro e w1 ⟨rfl, hr, hB⟩
  simp only [World.size_alloc] at hr
  have HB := Lib.hid (below_below H0.out hB)
  have BX1 := Lib.hid (BX0.out.below hB)
  have hl := BX0.out.lt
  have hl1 := BX1.out.lt
  clear hB
  go_wp2_with fail
  refine Calls.mono (l92Op_any _ _ _ hr (by omega)) ?_
  rintro e w2 ⟨o, q, rfl, hs, ht, hx, hr2, hq, hk⟩
  have BX2 := BX1.out.kp hk (by simp only [List.mem_singleton, World.size_alloc]; omega)
  have HB2 := Lib.hid (kp_below HB.out hk (by omega))
  have c2 := BX2.cell
  have f2 := BX2.froz
  have l2 := BX2.lt
  clear hk hr hr2
  obtain ⟨kd, pa, dst, at_, tx⟩ := o
  simp only [OpD.v]
  dsimp only at hs ht hx
  have zz := box_five BX2 (.int .i64 kd) (.string pa) (.string dst) (.int .i64 at_) (.string tx)
  have z0 := zz.cell
  have z1 := zz.lt
  clear zz BX2
  go_wp2_with fail
  refine bodyPost_ret (v := .agg #[.int .i64 kd, .string pa, .string dst, .int .i64 at_, .string tx]) (by simp [results, Tryd.results41, go_sem, z0, z1]) rfl ?_
  exact ⟨⟨kd, pa, dst, at_, tx⟩, rfl, hs, ht, hx, below_set5 HB2.out (Nat.le_refl _) _ _ _ _ _⟩

end Go.Proofs.YtjalboplilolkaaDoor
