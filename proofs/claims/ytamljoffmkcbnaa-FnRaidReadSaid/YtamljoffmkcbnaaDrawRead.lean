/- What the law on reading draws: the disks of a pool and a pointer. -/
import Derived.Test.YtamljoffmkcbnaaDrawOf
import Derived.Test.YtamljoffmkcbnaaDrawRd
import Derived.Test.YtamljoffmkcbnaaFlushLaw
namespace Go.Proofs.Ytamljoffmkcbnaa
open Go.RowKit Go.Sort
set_option maxRecDepth 100000
set_option linter.unusedVariables false
set_option linter.unusedSimpArgs false

/-- What was drawn. -/
structure DR (w w1 : World) (rb k : Nat) (A : Option Addr) (c : Nat) (xs : List DA) (ds : List Dk) (LA : Option Addr) (l : List Pt) (W : World) : Prop where
  disks : RdR w1.heap.size W A c xs ds
  list : RdT encP 5 W LA l
  lf : From w1.heap.size LA
  rs : Rs W rb k
  r0 : BoxAt W w.heap.size #[.slice none 0 0] 25
  r1 : BoxAt W (w.heap.size + 1) #[.int .i64 0, .int .i64 0, .int .i64 0, .int .i64 0, .int .i64 0] 29
  bel : Below w.heap.size w W
  h1 : w.heap.size + 1 < rb
  h2 : rb < w1.heap.size
section
variable {w w1 W W' : World} {rb k k' : Nat} {A : Option Addr} {c : Nat} {xs : List DA} {ds : List Dk} {LA : Option Addr} {l : List Pt}
theorem DR.step {ex : List Nat} (h : DR w w1 rb k A c xs ds LA l W) (hr : Rs W' rb k') (hK : Kp ex W W') (he : ∀ i ∈ ex, i = rb) : DR w w1 rb k' A c xs ds LA l W' := by
  have h1 := h.h1
  have h2 := h.h2
  exact ⟨h.disks.kp hK (fun i hi => by have := he i hi; omega), h.list.kp hK (fun _ a ha hm => by have := h.lf a ha; have := he _ hm; omega), h.lf, hr, h.r0.kp hK (fun hm => by have := he _ hm; omega), h.r1.kp hK (fun hm => by have := he _ hm; omega), below_kp h.bel hK (fun i hi => by have := he i hi; omega), h1, h2⟩
theorem DR.below (h : DR w w1 rb k A c xs ds LA l W) (hB : Below W.heap.size W W') : DR w w1 rb k A c xs ds LA l W' := h.step (h.rs.below hB) (Kp.of_below hB) (fun _ hm => by cases hm)
theorem DR.alloc (h : DR w w1 rb k A c xs ds LA l W) (o : Obj) : DR w w1 rb k A c xs ds LA l (W.alloc o) := h.below (below_alloc (Below.refl _ _) o)
theorem DR.drew (h : DR w w1 rb k A c xs ds LA l W) : DR w w1 rb k A c xs ds LA l W.drew := h.below (Below.drew (Below.refl _ _))
theorem DR.fin (h : DR w w1 rb k A c xs ds LA l W) (hK : Kp [w.heap.size, w.heap.size + 1] W W') (h3 : xs.length ≤ 3) (q : Pt) : DrawP w (.returned (.tuple #[.agg #[.slice A xs.length c], q.v])) W' := by
  have h1 := h.h1
  have h2 := h.h2
  exact ⟨A, c, xs, ds, q, rfl, (h.disks.kp hK (fun i hi => by simp at hi; omega)).1, by omega, below_kp h.bel hK (fun i hi => by simp at hi; omega)⟩
end
def PtrV (d : Nat) (w : World) (rb p : Nat) (v : Value) (w' : World) : Prop := ∃ (q : Pt) (k : Nat), v = q.v ∧ Rs w' rb (p + k) ∧ k ≤ d ∧ Kp [rb] w w'
theorem ptrV {d : Nat} {w w' : World} {rb p : Nat} {e : Ending} (h : PtrD d w rb p e w') : ∃ v, e = .returned v ∧ PtrV d w rb p v w' := by
  obtain ⟨q, k, he, h⟩ := h
  exact ⟨_, he, q, k, rfl, h⟩

set_option maxHeartbeats 8000000 in
theorem drawRaidRead_any (w : World) (A : Option Addr) (cap : Nat) (zs : List Int) (h : RdT (encI .u8) 1 w A zs) (hb : ∀ z ∈ zs, 0 ≤ z ∧ z ≤ 255) (hc : zs.length ≤ cap) (hm : cap ≤ 9223372036854775807) :
    Calls Try.prog 17 #[.slice A zs.length cap] w (DrawP w) := by
  have B0 := below_alloc (below_alloc (Below.refl w.heap.size w) (.cells #[.slice none 0 0] 25)) (.cells #[.int .i64 0, .int .i64 0, .int .i64 0, .int .i64 0, .int .i64 0] 29)
  have HO := Lib.hid ((open_any ((w.alloc (.cells #[.slice none 0 0] 25)).alloc (.cells #[.int .i64 0, .int .i64 0, .int .i64 0, .int .i64 0, .int .i64 0] 29)) A cap zs (h.below B0) hb hc hm).mono fun e w' g => (show ∃ rb, rb = w.heap.size + 2 ∧ e = .returned (.pointer (some ⟨rb, 0, none⟩)) ∧ Rs w' rb 0 ∧ BoxAt w' w.heap.size #[.slice none 0 0] 25 ∧ BoxAt w' (w.heap.size + 1) #[.int .i64 0, .int .i64 0, .int .i64 0, .int .i64 0, .int .i64 0] 29 ∧ Below w.heap.size w w' from by
    obtain ⟨g1, g2, g3⟩ := g
    have x0 := ((box_new w #[.slice none 0 0] 25).alloc (.cells #[.int .i64 0, .int .i64 0, .int .i64 0, .int .i64 0, .int .i64 0] 29)).below g3
    have x1 := box_new (w.alloc (.cells #[.slice none 0 0] 25)) #[.int .i64 0, .int .i64 0, .int .i64 0, .int .i64 0, .int .i64 0] 29
    rw [World.size_alloc] at x1
    have x2 := x1.below g3
    refine ⟨_, by simp, g1, g2, x0, x2, below_below B0 g3⟩))
  clear h hb B0
  generalize zs.length = n at HO hc ⊢
  have NO := Lib.hid (And.intro (show (Try.f40.name == "runtime.NumGoroutine") = false by kernel_rfl) (show Try.f40.body.isNone = false by kernel_rfl))
  go_enter Try.func17, Try.ntmps17
  go_wp2_with fail
  refine Calls.mono HO.out ?_
  rintro e w1 ⟨rb, hrb, rfl, hr, hx0, hx1, hB⟩
  have h1 : w.heap.size + 1 < rb := by omega
  have h2 := hr.lt
  have HB1 := Lib.hid hB
  have HX0 := Lib.hid hx0
  have HX1 := Lib.hid hx1
  have HR1 := Lib.hid hr
  clear hrb hr hx0 hx1 hB HO
  go_wp2_with fail
  refine Calls.mono (l91Raid_any w1 rb 0 HR1.out (by omega)) ?_
  rintro e w2 ⟨A2, c2, xs, ds, LA, lc, l, k, rfl, hR, hx3, hL, hlc, hlm, h10, hrs, hk, hkp⟩
  have D2 := Lib.hid (show DR w w1 rb (0 + k) A2 c2 xs ds LA l (w2.alloc (.cells #[.slice A2 xs.length c2] 25)) from
    DR.alloc ⟨hR, hL.1, hL.2, hrs, HX0.out.kp hkp (by simp; omega), HX1.out.kp hkp (by simp; omega), below_kp HB1.out hkp (fun i hi => by simp at hi; omega), h1, h2⟩ _)
  have BX2 := Lib.hid (box_new w2 #[.slice A2 xs.length c2] 25)
  have hs2 := hkp.size
  have HFB := Lib.hid (fun a (ha : LA = some a) => (show rb < a.block from by have := hL.2 a ha; omega))
  clear hR hL hrs hkp HX0 HX1 HB1 HR1
  obtain ⟨nx, hnx⟩ : ∃ nx : Nat, nx = xs.length := ⟨_, rfl⟩
  obtain ⟨nl, hnl⟩ : ∃ nl : Nat, nl = l.length := ⟨_, rfl⟩
  have HNX := Lib.hid hnx
  have HNL := Lib.hid hnl
  rw [← hnx] at D2 BX2 hx3 ⊢
  rw [← hnl] at hlc h10 ⊢
  have HOF := Lib.hid (fun W (hr : Rs W rb (0 + k)) (hl : RdT encP 5 W LA l) => (l91Of_any W rb (0 + k) LA lc l hr (by omega) hl HFB.out (by rw [← hnl]; exact h10) (by rw [← hnl]; exact hlc) hlm).mono fun e w' h => ptrV h)
  rw [← hnl] at HOF
  clear hnx hnl
  go_upto_region 3 with fail
  generalize hW3 : w2.alloc (.cells #[.slice A2 nx c2] 25) = W3 at *
  have bx3 := BX2.out.cell
  have bl3 := BX2.out.lt
  have s0 := D2.out.r0.lt
  have s1 := D2.out.r1.lt
  clear hW3
  go_region_law (first
    | (refine step_callR (f := 40) (vs := #[.pointer (some ⟨rb, 0, none⟩), .slice LA nl lc]) (R := PtrV 50 W3.drew rb (0 + k)) Try.func40 NO.out.1 NO.out.2 rfl rfl (by simp [Act.eval, Act.put]) (HOF.out W3.drew D2.out.drew.rs D2.out.drew.list) ?_; rintro v5 w5 ⟨⟨p0, p1, p2, p3, p4⟩, k5, he, hr5, hk5, hkp5⟩; unfold Pt.v at he; dsimp only at he; subst he; have D5 := Lib.hid (D2.out.drew.step hr5 hkp5 (fun i hi => by simpa using hi)); have BX5 := Lib.hid ((BX2.out.below (Below.drew (Below.refl W3.heap.size W3))).kp hkp5 (by simp; omega)); have bx5 := BX5.out.cell; have bl5 := BX5.out.lt; have r0c := D5.out.r0.cell; have r0f := D5.out.r0.froz; have r0l := D5.out.r0.lt; have r1c := D5.out.r1.cell; have r1f := D5.out.r1.froz; have r1l := D5.out.r1.lt; clear hr5 hkp5))
  all_goals
    have HF5 := Lib.hid (fun W' (hK : Kp [w.heap.size, w.heap.size + 1] w5 W') => D5.out.fin hK (by rw [← HNX.out]; exact hx3) ⟨p0, p1, p2, p3, p4⟩)
    rw [← HNX.out] at HF5
    unfold Pt.v at HF5
    dsimp only at HF5
    clear D5 D2 BX2 BX5
    go_wp2_with fail
    refine bodyPost_ret (v := .tuple #[.agg #[.slice A2 nx c2], .agg #[.int .i64 p0, .int .i64 p1, .int .i64 p2, .int .i64 p3, .int .i64 p4]]) (by simp [results, Try.results17, go_sem, r0c, r0l, r1c, r1l]) rfl ?_
    exact HF5.out _ (by (repeat (first | exact Kp.refl _ _ | refine Kp.setCell ?_ (.inl (by simp)) _)))

end Go.Proofs.Ytamljoffmkcbnaa
