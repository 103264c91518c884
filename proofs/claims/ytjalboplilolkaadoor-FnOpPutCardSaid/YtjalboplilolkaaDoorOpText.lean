/- The text of an operation: both texts' walks. -/
import Derived.Test.YtjalboplilolkaaDoorOpPlain
import Derived.Deep.RegionHeld3
namespace Go.Proofs.YtjalboplilolkaaDoor
open Go.RowKit Go.Sort
set_option maxRecDepth 100000
set_option linter.unusedVariables false
set_option linter.unusedSimpArgs false

/-- An operation's fields, in its variable. -/
theorem op_cells {w : World} {b : Nat} {kd at_ : Int} {pa dst tx : ByteArray} (h : BoxAt w b #[.int .i64 kd, .string pa, .string dst, .int .i64 at_, .string tx] 54) :
    w.cell? ⟨b, 0, none⟩ = some (.int .i64 kd) ∧ w.cell? ⟨b, 1, none⟩ = some (.string pa) ∧ w.cell? ⟨b, 2, none⟩ = some (.string dst) ∧ w.cell? ⟨b, 3, none⟩ = some (.int .i64 at_) ∧ w.cell? ⟨b, 4, none⟩ = some (.string tx) :=
  ⟨h.cell 0, h.cell 1, h.cell 2, h.cell 3, h.cell 4⟩
set_option maxHeartbeats 4000000 in
theorem opPut_any (w : World) (o : OpD) (hM : MaxAt w) (hT : TenAt w) (hp : o.path.size ≤ 1048576) (ht : o.dst.size ≤ 1048576) (hx : o.text.size ≤ 1048576) :
    Calls Tryd.prog 37 #[o.v] w fun e w' => e = .returned (.string (opT o)) ∧ Below w.heap.size w w' := by
  have HO := Lib.hid (fun w hM => opOk_any w o hM hp ht hx)
  have LB := Lib.hid (And.intro hM hT)
  have HBa := Lib.hid (below_alloc (Below.refl w.heap.size w) (.cells #[.int .i64 o.kind, .string o.path, .string o.dst, .int .i64 o.at_, .string o.text] 54))
  have BX := Lib.hid (box_new w #[.int .i64 o.kind, .string o.path, .string o.dst, .int .i64 o.at_, .string o.text] 54)
  clear hM hT hp ht hx
  unfold opT
  cases hok : opOkB o
  · rw [hok] at HO
    obtain ⟨kd, pa, dst, at_, tx⟩ := o
    simp only [OpD.v] at HO HBa BX ⊢
    clear hok
    go_enter Tryd.func37, Tryd.ntmps37
    go_wp2_with fail
    refine Calls.mono (HO.out _ (LB.out.1.below HBa.out)) ?_
    rintro e w1 ⟨rfl, hB1⟩
    have HB1 := Lib.hid (below_below HBa.out hB1)
    clear hB1
    go_wp2_with fail
    go_ret
    exact ⟨rfl, HB1.out⟩
  · rw [hok] at HO
    have hb := op_bounds hok
    have HR := Lib.hid (recX_yes (op_rec hok))
    have HRB := Lib.hid (op_rec hok)
    have HSZ := Lib.hid (op_sizes hok)
    have hN1 := numT_dec (n := o.kind) (by omega) (by omega)
    have hN2 := numT_dec (n := o.at_) (by omega) (by omega)
    unfold opF at HR HRB HSZ ⊢
    obtain ⟨kd, pa, dst, at_, tx⟩ := o
    simp only [OpD.v] at HO HBa BX HR HRB HSZ hN1 hN2 ⊢
    have HN1 := Lib.hid (fun w hT => numPut_any kd w hT)
    have HN2 := Lib.hid (fun w hT => numPut_any at_ w hT)
    rw [hN1] at HN1
    rw [hN2] at HN2
    generalize decT kd = K at *
    generalize decT at_ = T at *
    generalize recT [K, pa, dst, T, tx] = RT at *
    clear hok hb hN1 hN2
    go_enter Tryd.func37, Tryd.ntmps37
    go_wp2_with fail
    refine Calls.mono (HO.out _ (LB.out.1.below HBa.out)) ?_
    rintro e w1 ⟨rfl, hB1⟩
    have HB1 := Lib.hid (below_below HBa.out hB1)
    have BX1 := Lib.hid (BX.out.below hB1)
    have b0 : w1.cell? ⟨w.heap.size, 0, none⟩ = some (.int .i64 kd) := BX1.out.cell 0
    have b1 : w1.cell? ⟨w.heap.size, 1, none⟩ = some (.string pa) := BX1.out.cell 1
    have b2 : w1.cell? ⟨w.heap.size, 2, none⟩ = some (.string dst) := BX1.out.cell 2
    have b3 : w1.cell? ⟨w.heap.size, 3, none⟩ = some (.int .i64 at_) := BX1.out.cell 3
    have b4 : w1.cell? ⟨w.heap.size, 4, none⟩ = some (.string tx) := BX1.out.cell 4
    have hl1 := BX1.out.lt
    clear hB1 BX HO
    go_wp2_with fail
    --H1
    go_region_held3 (fun w' => w'.cell? ⟨w.heap.size, 0, none⟩ = some (.int .i64 kd) ∧ w'.cell? ⟨w.heap.size, 1, none⟩ = some (.string pa) ∧ w'.cell? ⟨w.heap.size, 2, none⟩ = some (.string dst) ∧ w'.cell? ⟨w.heap.size, 3, none⟩ = some (.int .i64 at_) ∧ w'.cell? ⟨w.heap.size, 4, none⟩ = some (.string tx)) (first | exact S4.out | exact S3.out | exact (op_cells (BX3.out.alloc _)) | exact S2.out | go_keep)
      (first
        | (have _g := BX3; go_at_call 69; clear _g; refine Calls.mono (fieldsPut_any _ _ 5 [K, pa, dst, T, tx] (LB.out.2.below ?hb) (rd_fiveS _ _ _ _ _ _) ?h1 ?h2 HSZ.out) ?_; (case hb => (have := HB3w.out; (repeat (first | assumption | exact Below.refl _ _ | refine below_alloc ?_ _ | refine Below.drew ?_ | refine below_drewN ?_ _ | refine below_set ?_ (by first | exact Nat.le_refl _ | omega | (simp; done) | (simp; omega)) _ | refine below_kp ?_ (by assumption) (by simp) | refine below_below ?_ (by assumption))))); (case h1 => simp); (case h2 => omega); rintro e w4 ⟨rfl, hB4⟩; have hb4 := below_below (below_alloc HB3.out _) hB4; have HB4w := Lib.hid (below_below HB1.out hb4); have S4 := Lib.hid (op_cells (BX1.out.below hb4)); clear hB4 hb4)
        | (have _g := BX2; go_at_call 53; clear _g; refine Calls.mono (HN2.out _ (LB.out.2.below ?hb)) ?_; (case hb => (have := HB2w.out; (repeat (first | assumption | exact Below.refl _ _ | refine below_alloc ?_ _ | refine Below.drew ?_ | refine below_drewN ?_ _ | refine below_set ?_ (by first | exact Nat.le_refl _ | omega | (simp; done) | (simp; omega)) _ | refine below_kp ?_ (by assumption) (by simp) | refine below_below ?_ (by assumption))))); rintro e w3 ⟨rfl, hB3⟩; have hb3 := below_below HB2.out hB3; have HB3 := Lib.hid hb3; have HB3w := Lib.hid (below_below HB1.out hb3); have BX3 := Lib.hid (BX1.out.below hb3); have S3 := Lib.hid (op_cells BX3.out); clear hB3 hb3)
        | (go_at_call 53; refine Calls.mono (HN1.out _ (LB.out.2.below ?hb)) ?_; (case hb => (have := HB1.out; (repeat (first | assumption | exact Below.refl _ _ | refine below_alloc ?_ _ | refine Below.drew ?_ | refine below_drewN ?_ _ | refine below_set ?_ (by first | exact Nat.le_refl _ | omega | (simp; done) | (simp; omega)) _ | refine below_kp ?_ (by assumption) (by simp) | refine below_below ?_ (by assumption))))); rintro e w2 ⟨rfl, hB2⟩; have hb2 := below_below (Below.drew (Below.refl w1.heap.size w1)) hB2; have HB2 := Lib.hid hb2; have HB2w := Lib.hid (below_below HB1.out hb2); have BX2 := Lib.hid (BX1.out.below hb2); have S2 := Lib.hid (op_cells BX2.out); clear hB2 hb2))
    have hRR := HR.out
    generalize recX [K, pa, dst, T, tx] = RX at *
    subst hRR
    clear b0 b1 b2 b3 b4
    go_wp2_with fail
    go_ret
    exact ⟨rfl, HB4w.out⟩
set_option maxHeartbeats 4000000 in
theorem specOpPut_any (w : World) (o : OpD) (hp : o.path.size ≤ 1048576) (ht : o.dst.size ≤ 1048576) (hx : o.text.size ≤ 1048576) :
    Calls Tryd.prog 35 #[o.v] w fun e w' => e = .returned (.string (opT o)) ∧ Below w.heap.size w w' := by
  have HO := Lib.hid (fun w => specOpOk_any w o hp ht hx)
  have HBa := Lib.hid (below_alloc (Below.refl w.heap.size w) (.cells #[.int .i64 o.kind, .string o.path, .string o.dst, .int .i64 o.at_, .string o.text] 54))
  have BX := Lib.hid (box_new w #[.int .i64 o.kind, .string o.path, .string o.dst, .int .i64 o.at_, .string o.text] 54)
  clear hp ht hx
  unfold opT
  cases hok : opOkB o
  · rw [hok] at HO
    obtain ⟨kd, pa, dst, at_, tx⟩ := o
    simp only [OpD.v] at HO HBa BX ⊢
    clear hok
    go_enter Tryd.func35, Tryd.ntmps35
    go_wp2_with fail
    refine Calls.mono (HO.out _) ?_
    rintro e w1 ⟨rfl, hB1⟩
    have HB1 := Lib.hid (below_below HBa.out hB1)
    clear hB1
    go_wp2_with fail
    go_ret
    exact ⟨rfl, HB1.out⟩
  · rw [hok] at HO
    have hb := op_bounds hok
    have HR := Lib.hid (recX_yes (op_rec hok))
    have HRB := Lib.hid (op_rec hok)
    have HSZ := Lib.hid (op_sizes hok)
    unfold opF at HR HRB HSZ ⊢
    obtain ⟨kd, pa, dst, at_, tx⟩ := o
    dsimp only at hb
    obtain ⟨kd, rfl⟩ : ∃ n : Nat, kd = (n : Int) := ⟨kd.toNat, by omega⟩
    obtain ⟨at_, rfl⟩ : ∃ n : Nat, at_ = (n : Int) := ⟨at_.toNat, by omega⟩
    simp only [OpD.v] at HO HBa BX HR HRB HSZ ⊢
    have HN1 := Lib.hid (fun w => dec_any kd w (by omega))
    have HN2 := Lib.hid (fun w => dec_any at_ w (by omega))
    generalize decT (kd : Int) = K at *
    generalize decT (at_ : Int) = T at *
    generalize recT [K, pa, dst, T, tx] = RT at *
    clear hok hb
    go_enter Tryd.func35, Tryd.ntmps35
    go_wp2_with fail
    refine Calls.mono (HO.out _) ?_
    rintro e w1 ⟨rfl, hB1⟩
    have HB1 := Lib.hid (below_below HBa.out hB1)
    have BX1 := Lib.hid (BX.out.below hB1)
    have b0 : w1.cell? ⟨w.heap.size, 0, none⟩ = some (.int .i64 (kd : Int)) := BX1.out.cell 0
    have b1 : w1.cell? ⟨w.heap.size, 1, none⟩ = some (.string pa) := BX1.out.cell 1
    have b2 : w1.cell? ⟨w.heap.size, 2, none⟩ = some (.string dst) := BX1.out.cell 2
    have b3 : w1.cell? ⟨w.heap.size, 3, none⟩ = some (.int .i64 (at_ : Int)) := BX1.out.cell 3
    have b4 : w1.cell? ⟨w.heap.size, 4, none⟩ = some (.string tx) := BX1.out.cell 4
    have hl1 := BX1.out.lt
    clear hB1 BX HO
    go_wp2_with fail
    --H1
    go_region_held3 (fun w' => w'.cell? ⟨w.heap.size, 0, none⟩ = some (.int .i64 (kd : Int)) ∧ w'.cell? ⟨w.heap.size, 1, none⟩ = some (.string pa) ∧ w'.cell? ⟨w.heap.size, 2, none⟩ = some (.string dst) ∧ w'.cell? ⟨w.heap.size, 3, none⟩ = some (.int .i64 (at_ : Int)) ∧ w'.cell? ⟨w.heap.size, 4, none⟩ = some (.string tx)) (first | exact S4.out | exact S3.out | exact (op_cells (BX3.out.alloc _)) | exact S2.out | go_keep)
      (first
        | (have _g := BX3; go_at_call 64; clear _g; refine Calls.mono (specFieldsPut_any _ _ 5 [K, pa, dst, T, tx] (rd_fiveS _ _ _ _ _ _) ?h1 ?h2 HSZ.out) ?_; (case h1 => simp); (case h2 => omega); rintro e w4 ⟨rfl, hB4⟩; have hb4 := below_below (below_alloc HB3.out _) hB4; have HB4w := Lib.hid (below_below HB1.out hb4); have S4 := Lib.hid (op_cells (BX1.out.below hb4)); clear hB4 hb4)
        | (have _g := BX2; go_at_call 65; clear _g; refine Calls.mono (HN2.out _) ?_; rintro e w3 ⟨rfl, hB3⟩; have hb3 := below_below HB2.out hB3; have HB3 := Lib.hid hb3; have HB3w := Lib.hid (below_below HB1.out hb3); have BX3 := Lib.hid (BX1.out.below hb3); have S3 := Lib.hid (op_cells BX3.out); clear hB3 hb3)
        | (go_at_call 65; refine Calls.mono (HN1.out _) ?_; rintro e w2 ⟨rfl, hB2⟩; have hb2 := below_below (Below.drew (Below.refl w1.heap.size w1)) hB2; have HB2 := Lib.hid hb2; have HB2w := Lib.hid (below_below HB1.out hb2); have BX2 := Lib.hid (BX1.out.below hb2); have S2 := Lib.hid (op_cells BX2.out); clear hB2 hb2))
    have hRR := HR.out
    generalize recX [K, pa, dst, T, tx] = RX at *
    subst hRR
    clear b0 b1 b2 b3 b4
    go_wp2_with fail
    go_ret
    exact ⟨rfl, HB4w.out⟩

end Go.Proofs.YtjalboplilolkaaDoor
