/- The text of a node: both texts' walks. -/
import Derived.Test.YthedmiippfpbnaaGreatDoorNodePlain
import Derived.Test.YthedmiippfpbnaaGreatDoorNodeOk
import Derived.Test.YthedmiippfpbnaaGreatDoorPtrPut2
import Derived.Deep.RegionHeld3
namespace Go.Proofs.YthedmiippfpbnaaGreatDoor
open Go.RowKit Go.Sort
set_option maxRecDepth 100000
set_option linter.unusedVariables false
set_option linter.unusedSimpArgs false

theorem own_one (V : World) (base : Nat) (hb : base ≤ V.heap.size) (x : ByteArray) : Own encS 1 9 base (V.alloc (.cells #[.string x] 9)) (.slice (some ⟨V.heap.size, 0, none⟩) 1 1) [x] :=
  ⟨by simp [cellsOf], .inr ⟨V.heap.size, 1, #[.string x], rfl, hb, heap_alloc_new V _, Nat.le_refl _, by unfold maxLen; omega, by simp, by simp [cellsOf, encS]⟩⟩
theorem own_oneAt {V : World} {base b : Nat} {x : ByteArray} (h : b = V.heap.size) (hb : base ≤ b) : Own encS 1 9 base (V.alloc (.cells #[.string x] 9)) (.slice (some ⟨b, 0, none⟩) 1 1) [x] := by
  subst h
  exact own_one V base hb x
theorem rd_oneAt {V : World} {b : Nat} {x : ByteArray} (h : b = V.heap.size) : RdT encS 1 (V.alloc (.cells #[.string x] 9)) (some ⟨b, 0, none⟩) [x] := by
  subst h
  exact rd_oneS V x
theorem rd_twoAt {V : World} {b : Nat} {x y : Int} (h : b = V.heap.size) : RdT encN 1 (V.alloc (.cells #[.int .i64 x, .int .i64 y] 3)) (some ⟨b, 0, none⟩) [x, y] := by
  subst h
  exact rd_twoN V x y
theorem rd_threeAt {V : World} {b : Nat} {x y z : Int} (h : b = V.heap.size) : RdT encN 1 (V.alloc (.cells #[.int .i64 x, .int .i64 y, .int .i64 z] 3)) (some ⟨b, 0, none⟩) [x, y, z] := by
  subst h
  exact rd_threeN V x y z
theorem step_appB {α : Type} {enc : α → Nat → Value} {t T sz bytes base : Nat} {w : World} {ops : Array Oper} {o : Oper} {a : Act} {K : Act → World → Prop} {Q : Exit → Act → World → Prop} {F : Prop} (E : El t T sz bytes) (hgd : o.guard = none) (s x : Operand)
    (ho : o.op = .call { callee := .builtin .append, args := #[s, x], argTypes := #[t, t] })
    {v : Value} {xs : List α} (hs : a.eval s = v) (hown : Own enc sz T base w v xs) {A : Option Addr} {ys : List α} {m c : Nat} (hx : a.eval x = .slice A m c) (hm : m = ys.length) (hr : RdT enc sz w A ys) (h1 : OneC enc)
    (hb : (xs.length + ys.length) * bytes ≤ 140737488355328) (h63 : xs.length + ys.length ≤ maxLen) (hbase : base ≤ w.heap.size)
    (h : ∀ v' w', Own enc sz T base w' v' (xs ++ ys) → Below base w w' → w.grownBy w' v.ownBlock → (v'.ownBlock = v.ownBlock ∨ v'.ownBlock = some w.heap.size) → K (a.put o.dst v') w') :
    if Region.wanted o (yielded ops a.tmps) = true then Oper.wp Tryz.prog o a w K Q else F :=
  step_app E hgd s x ho hs hown hx hm hr h1 hb h63 hbase fun v' w' h2 h3 h4 => h v' w' h2 ((Below.refl base w).grown h3 hbase (fun k hk => by
    rcases hown.2 with ⟨rfl, _⟩ | ⟨g, cap, cur, rfl, hb, _⟩
    · simp [Value.ownBlock] at hk
    · simp [Value.ownBlock] at hk
      omega)) h3 h4
theorem own_lower {α : Type} {enc : α → Nat → Value} {T sz base base' : Nat} {w : World} {v : Value} {xs : List α} (h : Own enc sz T base w v xs) (hb : base' ≤ base) : Own enc sz T base' w v xs := by
  refine ⟨h.1, ?_⟩
  rcases h.2 with h | ⟨g, cap, cur, rfl, hg, r⟩
  · exact .inl h
  · exact .inr ⟨g, cap, cur, rfl, Nat.le_trans hb hg, r⟩
theorem own_ne {α : Type} {enc : α → Nat → Value} {sz T base b : Nat} {W0 : World} {v : Value} {xs : List α} (h : Own enc sz T base W0 v xs) (hb : b < base ∨ W0.heap.size ≤ b) : some b ≠ v.ownBlock := by
  obtain ⟨A, cap, rfl, _, _, hA, _⟩ := h.form
  intro e
  cases A with
  | none => simp [Value.ownBlock] at e
  | some a =>
    have := hA a rfl
    simp [Value.ownBlock] at e
    omega
theorem rd_far {α : Type} {enc : α → Nat → Value} {sz b : Nat} {W W' : World} {row : Option Nat} {xs : List α} (h : RdT enc sz W (some ⟨b, 0, none⟩) xs) (hg : W.grownBy W' row) (hne : some b ≠ row) : RdT enc sz W' (some ⟨b, 0, none⟩) xs :=
  h.keep hg.size (fun _ a ha hl => by cases ha; exact hg.block _ hl hne)
theorem tree_cells {w : World} {b : Nat} {c0 c1 c2 c3 c4 c5 c6 : Value} {T : TypeId} (h : BoxAt w b #[c0, c1, c2, c3, c4, c5, c6] T) :
    w.cell? ⟨b, 0, none⟩ = some c0 ∧ w.cell? ⟨b, 1, none⟩ = some c1 ∧ w.cell? ⟨b, 2, none⟩ = some c2 ∧ w.cell? ⟨b, 3, none⟩ = some c3 ∧ w.cell? ⟨b, 4, none⟩ = some c4 ∧ w.cell? ⟨b, 5, none⟩ = some c5 ∧ w.cell? ⟨b, 6, none⟩ = some c6 :=
  ⟨h.cell 0, h.cell 1, h.cell 2, h.cell 3, h.cell 4, h.cell 5, h.cell 6⟩
theorem node_cells {w : World} {b : Nat} {c0 c1 c2 c3 c4 c5 c6 c7 c8 c9 : Value} {T : TypeId} (h : BoxAt w b #[c0, c1, c2, c3, c4, c5, c6, c7, c8, c9] T) :
    w.cell? ⟨b, 0, none⟩ = some c0 ∧ w.cell? ⟨b, 1, none⟩ = some c1 ∧ w.cell? ⟨b, 2, none⟩ = some c2 ∧ w.cell? ⟨b, 3, none⟩ = some c3 ∧ w.cell? ⟨b, 4, none⟩ = some c4 ∧ w.cell? ⟨b, 5, none⟩ = some c5 ∧ w.cell? ⟨b, 6, none⟩ = some c6 ∧ w.cell? ⟨b, 7, none⟩ = some c7 ∧ w.cell? ⟨b, 8, none⟩ = some c8 ∧ w.cell? ⟨b, 9, none⟩ = some c9 :=
  ⟨h.cell 0, h.cell 1, h.cell 2, h.cell 3, h.cell 4, h.cell 5, h.cell 6, h.cell 7, h.cell 8, h.cell 9⟩
set_option maxHeartbeats 4000000 in
theorem treeFields_any (w : World) (p : Pt) (d m : Int) (hT : TenAt w) (d0 : 0 ≤ d) (d1 : d ≤ 999999999) (m0 : 0 ≤ m) (m1 : m ≤ 999999999) :
    Calls Tryz.prog 35 #[.agg #[.int .i64 p.at_, .int .i64 p.birth, .int .i64 p.size, .int .i64 p.sum, .int .i64 p.level, .int .i64 d, .int .i64 m]] w fun e w' => ∃ v, e = .returned v ∧ Own encS 1 9 w.heap.size w' v [ptrT p, decT d, decT m] ∧ Below w.heap.size w w' := by
  have HP := Lib.hid (fun w hT => ptrPut_any w p hT)
  have HZ := Lib.hid (show [d, m].map numT = [decT d, decT m] by simp only [List.map]; rw [numT_dec d0 d1, numT_dec m0 m1])
  have HT := Lib.hid hT
  clear hT d0 d1 m0 m1
  generalize ptrT p = PT at *
  obtain ⟨a, b, z, u, l⟩ := p
  unfold Pt.v at HP
  dsimp only at *
  generalize decT d = D at *
  generalize decT m = M at *
  have HBa := below_alloc (Below.refl w.heap.size w) (.cells #[.int .i64 a, .int .i64 b, .int .i64 z, .int .i64 u, .int .i64 l, .int .i64 d, .int .i64 m] 25)
  have BX := Lib.hid (box_new w #[.int .i64 a, .int .i64 b, .int .i64 z, .int .i64 u, .int .i64 l, .int .i64 d, .int .i64 m] 25)
  have hs1 : (w.alloc (.cells #[.int .i64 a, .int .i64 b, .int .i64 z, .int .i64 u, .int .i64 l, .int .i64 d, .int .i64 m] 25)).heap.size = w.heap.size + 1 := World.size_alloc _ _
  have hlt1 : w.heap.size < (w.alloc (.cells #[.int .i64 a, .int .i64 b, .int .i64 z, .int .i64 u, .int .i64 l, .int .i64 d, .int .i64 m] 25)).heap.size := by omega
  clear hs1
  go_enter Tryz.func35, Tryz.ntmps35
  go_wp2_with fail
  generalize w.alloc (.cells #[.int .i64 a, .int .i64 b, .int .i64 z, .int .i64 u, .int .i64 l, .int .i64 d, .int .i64 m] 25) = W1 at *
  obtain ⟨s0, s1, s2, s3, s4, s5, s6⟩ := tree_cells BX.out
  --H1
  go_region_held3 (fun w' => w'.cell? ⟨w.heap.size, 0, none⟩ = some (.int .i64 a) ∧ w'.cell? ⟨w.heap.size, 1, none⟩ = some (.int .i64 b) ∧ w'.cell? ⟨w.heap.size, 2, none⟩ = some (.int .i64 z) ∧ w'.cell? ⟨w.heap.size, 3, none⟩ = some (.int .i64 u) ∧ w'.cell? ⟨w.heap.size, 4, none⟩ = some (.int .i64 l) ∧ w'.cell? ⟨w.heap.size, 5, none⟩ = some (.int .i64 d) ∧ w'.cell? ⟨w.heap.size, 6, none⟩ = some (.int .i64 m)) (first | go_keep | exact tree_cells (BX.out.below (by (repeat (first | assumption | exact Below.refl _ _ | refine below_alloc ?_ _ | refine Below.drew ?_ | refine below_drewN ?_ _ | refine below_below ?_ (by assumption) | refine Below.trans ?_ (by assumption))))))
    (first
      | (go_at_call 48; refine Calls.mono (HP.out _ (HT.out.below ?hb)) ?_; (case hb => (repeat (first | assumption | exact Below.refl _ _ | refine below_alloc ?_ _ | refine Below.drew ?_ | refine below_drewN ?_ _ | refine below_below ?_ (by assumption) | refine Below.trans ?_ (by assumption)))); rintro e w2 ⟨rfl, hB2⟩; have hz2 := hB2.size)
      | (go_at_call 34; refine Calls.mono (numbers_any _ _ 2 [d, m] (HT.out.below ?hb) ?rd (by simp) (by simp) (by omega)) ?_; (case hb => (repeat (first | assumption | exact Below.refl _ _ | refine below_alloc ?_ _ | refine Below.drew ?_ | refine below_drewN ?_ _ | refine below_below ?_ (by assumption) | refine Below.trans ?_ (by assumption)))); (case rd => (repeat (first | exact rd_oneAt (by first | rfl | (simp only [World.size_alloc, World.size_drew]; done)) | exact rd_twoAt (by first | rfl | (simp only [World.size_alloc, World.size_drew]; done)) | exact rd_threeAt (by first | rfl | (simp only [World.size_alloc, World.size_drew]; done)) | exact rd_sevenS _ _ _ _ _ _ _ _ | assumption | exact RD3.out | exact RD4.out | exact RD5.out | exact RD6.out | refine RdT.below ?_ ((Below.refl _ _).alloc (Nat.le_refl _) _) | refine RdT.below ?_ (Below.drew (Below.refl _ _)) | refine RdT.below ?_ (by assumption) | refine rd_far ?_ (by assumption) (own_ne OW3.out (by first | exact Or.inl (by first | omega | (simp only [World.size_alloc, World.size_drew] at *; omega)) | exact Or.inr (by first | omega | (simp only [World.size_alloc, World.size_drew] at *; omega))))))); rintro e w3 ⟨v3, rfl, own3, hB3⟩; rw [HZ.out] at own3; obtain ⟨A3, c3, rfl, _, _, _, rd3⟩ := own3.form; have RD3 := Lib.hid rd3; clear rd3 own3; have hz3 := hB3.size)
      | (refine step_appB (base := W1.heap.size) (xs := ([PT] : List ByteArray)) (ys := ([D, M] : List ByteArray)) elS rfl (.tmp 6) (.tmp 12) (by rfl) (by rfl) ?own (by rfl) (by rfl) ?rd oneS (by simp) (by simp [maxLen]) ?bs ?_; (case own => (repeat (first | exact own_oneAt (by first | rfl | (simp only [World.size_alloc, World.size_drew]; done)) (by first | omega | (simp only [World.size_alloc, World.size_drew] at *; omega)) | exact OL3.out | exact OW5.out | assumption | refine own_allocS ?_ _ | refine Own.below ?_ (Below.drew (Below.refl _ _)) | refine Own.below ?_ (by assumption)))); (case rd => (repeat (first | exact rd_oneAt (by first | rfl | (simp only [World.size_alloc, World.size_drew]; done)) | exact rd_twoAt (by first | rfl | (simp only [World.size_alloc, World.size_drew]; done)) | exact rd_threeAt (by first | rfl | (simp only [World.size_alloc, World.size_drew]; done)) | exact rd_sevenS _ _ _ _ _ _ _ _ | assumption | exact RD3.out | exact RD4.out | exact RD5.out | exact RD6.out | refine RdT.below ?_ ((Below.refl _ _).alloc (Nat.le_refl _) _) | refine RdT.below ?_ (Below.drew (Below.refl _ _)) | refine RdT.below ?_ (by assumption) | refine rd_far ?_ (by assumption) (own_ne OW3.out (by first | exact Or.inl (by first | omega | (simp only [World.size_alloc, World.size_drew] at *; omega)) | exact Or.inr (by first | omega | (simp only [World.size_alloc, World.size_drew] at *; omega))))))); (case bs => exact (by first | omega | (simp only [World.size_alloc, World.size_drew] at *; omega))); intro v4 w4 own4 hB4 gr4 at4))
  all_goals go_wp2_with fail
  all_goals exact bodyPost_ret (v := v4) (by simp [results, Tryz.results35, go_sem]) rfl ⟨_, rfl, own_lower own4 (Nat.le_of_lt hlt1), below_below HBa (by (repeat (first | assumption | exact Below.refl _ _ | refine below_alloc ?_ _ | refine Below.drew ?_ | refine below_drewN ?_ _ | refine below_below ?_ (by assumption) | refine Below.trans ?_ (by assumption))))⟩
set_option maxHeartbeats 8000000 in
theorem nodePut_any (w : World) (n : Nd) (hT : TenAt w) : Calls Tryz.prog 15 #[n.v] w fun e w' => e = .returned (.string (nodeT n)) ∧ Below w.heap.size w w' := by
  have HO := Lib.hid (fun w => nodeOk_any n w)
  have HBa := Lib.hid (below_alloc (Below.refl w.heap.size w) (.cells #[.int .i64 n.kind, .int .i64 n.links, .int .i64 n.size, .int .i64 n.root.at_, .int .i64 n.root.birth, .int .i64 n.root.size, .int .i64 n.root.sum, .int .i64 n.root.level, .int .i64 n.depth, .int .i64 n.many] 27))
  have BX := Lib.hid (box_new w #[.int .i64 n.kind, .int .i64 n.links, .int .i64 n.size, .int .i64 n.root.at_, .int .i64 n.root.birth, .int .i64 n.root.size, .int .i64 n.root.sum, .int .i64 n.root.level, .int .i64 n.depth, .int .i64 n.many] 27)
  have HT := Lib.hid hT
  clear hT
  unfold nodeT
  cases hok : nodeB n
  · rw [hok] at HO
    obtain ⟨kd, li, sz, ⟨a, b, z, u, l⟩, d, m⟩ := n
    simp only [Nd.v] at HO HBa BX ⊢
    clear hok
    go_enter Tryz.func15, Tryz.ntmps15
    go_wp2_with fail
    refine Calls.mono (HO.out _) ?_
    rintro e w1 ⟨rfl, hB1⟩
    have HB1 := Lib.hid (below_below HBa.out hB1)
    clear hB1
    go_wp2_with fail
    go_ret
    exact ⟨rfl, HB1.out⟩
  · rw [hok] at HO
    have hb := node_bounds hok
    have HR := recX_yes (node_rec hok)
    have HRB := node_rec hok
    have HSZ := Lib.hid (node_sizes hok)
    have HZ := Lib.hid (show [n.kind, n.links, n.size].map numT = [decT n.kind, decT n.links, decT n.size] by simp only [List.map]; rw [numT_dec (by omega) (by omega), numT_dec (by omega) (by omega), numT_dec (by omega) (by omega)])
    have HTF := Lib.hid (fun w hT => treeFields_any w n.root n.depth n.many hT (by omega) (by omega) (by omega) (by omega))
    have HF := show ∀ W A c, TenAt W → RdT encS 1 W A (nodeF n) → (nodeF n).length ≤ c → c ≤ 9223372036854775807 → Calls Tryz.prog 33 #[.slice A (nodeF n).length c] W (fun e w' => e = .returned (.tuple #[.string (recT (nodeF n)), .bool true]) ∧ Below W.heap.size W w') from fun W A c hT rd h1 h2 => (fieldsPut_any W A c (nodeF n) hT rd h1 h2 HSZ.out).mono (fun e w' h => by have h' := h.1; rw [HR, HRB] at h'; exact ⟨h', h.2⟩)
    unfold nodeF at HF ⊢
    replace HF := Lib.hid HF
    clear HR HRB HSZ
    obtain ⟨kd, li, sz, ⟨a, b, z, u, l⟩, d, m⟩ := n
    simp only [Nd.v] at HO HBa BX HF HZ HTF ⊢
    generalize decT kd = K at *
    generalize decT li = LI at *
    generalize decT sz = SZ at *
    generalize decT d = D at *
    generalize decT m = M at *
    generalize ptrT ⟨a, b, z, u, l⟩ = PT at *
    generalize recT [K, LI, SZ, PT, D, M, endT] = RT at *
    clear hok hb
    go_enter Tryz.func15, Tryz.ntmps15
    go_wp2_with fail
    refine Calls.mono (HO.out _) ?_
    rintro e W1 ⟨rfl, hB1⟩
    have HB1 := below_below HBa.out hB1
    have BX1 := Lib.hid (BX.out.below hB1)
    have hlt1 := BX1.out.lt
    obtain ⟨s0, s1, s2, s3, s4, s5, s6, s7, s8, s9⟩ := node_cells BX1.out
    clear hB1 BX HO HBa
    go_wp2_with fail
    --Hi
    go_region_held3 (fun w' => w'.cell? ⟨w.heap.size, 0, none⟩ = some (.int .i64 kd) ∧ w'.cell? ⟨w.heap.size, 1, none⟩ = some (.int .i64 li) ∧ w'.cell? ⟨w.heap.size, 2, none⟩ = some (.int .i64 sz) ∧ w'.cell? ⟨w.heap.size, 3, none⟩ = some (.int .i64 a) ∧ w'.cell? ⟨w.heap.size, 4, none⟩ = some (.int .i64 b) ∧ w'.cell? ⟨w.heap.size, 5, none⟩ = some (.int .i64 z) ∧ w'.cell? ⟨w.heap.size, 6, none⟩ = some (.int .i64 u) ∧ w'.cell? ⟨w.heap.size, 7, none⟩ = some (.int .i64 l) ∧ w'.cell? ⟨w.heap.size, 8, none⟩ = some (.int .i64 d) ∧ w'.cell? ⟨w.heap.size, 9, none⟩ = some (.int .i64 m)) (first | go_keep | exact node_cells (BX1.out.below (by (repeat (first | assumption | exact Below.refl _ _ | refine below_alloc ?_ _ | refine Below.drew ?_ | refine below_drewN ?_ _ | refine below_below ?_ (by assumption) | refine Below.trans ?_ (by assumption))))))
      (first
        | (go_at_call 34; refine Calls.mono (numbers_any _ _ 3 [kd, li, sz] (HT.out.below ?hb) ?rd (by simp) (by simp) (by omega)) ?_; (case hb => refine below_below HB1 ?_; (repeat (first | assumption | exact Below.refl _ _ | refine below_alloc ?_ _ | refine Below.drew ?_ | refine below_drewN ?_ _ | refine below_below ?_ (by assumption) | refine Below.trans ?_ (by assumption)))); (case rd => (repeat (first | exact rd_oneAt (by first | rfl | (simp only [World.size_alloc, World.size_drew]; done)) | exact rd_twoAt (by first | rfl | (simp only [World.size_alloc, World.size_drew]; done)) | exact rd_threeAt (by first | rfl | (simp only [World.size_alloc, World.size_drew]; done)) | exact rd_sevenS _ _ _ _ _ _ _ _ | assumption | exact RD3.out | exact RD4.out | exact RD5.out | exact RD6.out | refine RdT.below ?_ ((Below.refl _ _).alloc (Nat.le_refl _) _) | refine RdT.below ?_ (Below.drew (Below.refl _ _)) | refine RdT.below ?_ (by assumption) | refine rd_far ?_ (by assumption) (own_ne OW3.out (by first | exact Or.inl (by first | omega | (simp only [World.size_alloc, World.size_drew] at *; omega)) | exact Or.inr (by first | omega | (simp only [World.size_alloc, World.size_drew] at *; omega))))))); rintro e w3 ⟨v3, rfl, own3, hB3⟩; rw [HZ.out] at own3; obtain ⟨A3, c3, rfl, _, _, _, _⟩ := own3.form; have OW3 := Lib.hid own3; have OL3 := Lib.hid (own_lower (base' := W1.heap.size) own3 (by first | omega | (simp only [World.size_alloc, World.size_drew] at *; omega))); clear own3; have hz3 := hB3.size; (try simp only [World.size_alloc, World.size_drew] at hz3))
        | (refine step_appB (base := W1.heap.size) (xs := ([K, LI, SZ] : List ByteArray)) (ys := ([PT, D, M] : List ByteArray)) elS rfl (.tmp 16) (.tmp 19) (by rfl) (by rfl) ?own (by rfl) (by rfl) ?rd oneS (by simp) (by simp [maxLen]) ?bs ?_; (case own => (repeat (first | exact own_oneAt (by first | rfl | (simp only [World.size_alloc, World.size_drew]; done)) (by first | omega | (simp only [World.size_alloc, World.size_drew] at *; omega)) | exact OL3.out | exact OW5.out | assumption | refine own_allocS ?_ _ | refine Own.below ?_ (Below.drew (Below.refl _ _)) | refine Own.below ?_ (by assumption)))); (case rd => (repeat (first | exact rd_oneAt (by first | rfl | (simp only [World.size_alloc, World.size_drew]; done)) | exact rd_twoAt (by first | rfl | (simp only [World.size_alloc, World.size_drew]; done)) | exact rd_threeAt (by first | rfl | (simp only [World.size_alloc, World.size_drew]; done)) | exact rd_sevenS _ _ _ _ _ _ _ _ | assumption | exact RD3.out | exact RD4.out | exact RD5.out | exact RD6.out | refine RdT.below ?_ ((Below.refl _ _).alloc (Nat.le_refl _) _) | refine RdT.below ?_ (Below.drew (Below.refl _ _)) | refine RdT.below ?_ (by assumption) | refine rd_far ?_ (by assumption) (own_ne OW3.out (by first | exact Or.inl (by first | omega | (simp only [World.size_alloc, World.size_drew] at *; omega)) | exact Or.inr (by first | omega | (simp only [World.size_alloc, World.size_drew] at *; omega))))))); (case bs => exact (by first | omega | (simp only [World.size_alloc, World.size_drew] at *; omega))); intro v5 w5 own5 hB5 gr5 at5; have OW5 := Lib.hid own5; have hz5 := hB5.size; (try simp only [World.size_alloc, World.size_drew] at hz5); have gr5 : World.grownBy _ w5 (Value.slice A3 3 c3).ownBlock := gr5; clear own5 at5)
        | (go_at_call 35; refine Calls.mono (HTF.out _ (HT.out.below ?hb)) ?_; (case hb => refine below_below HB1 ?_; (repeat (first | assumption | exact Below.refl _ _ | refine below_alloc ?_ _ | refine Below.drew ?_ | refine below_drewN ?_ _ | refine below_below ?_ (by assumption) | refine Below.trans ?_ (by assumption)))); rintro e w4 ⟨v4, rfl, own4, hB4⟩; obtain ⟨A4, c4, rfl, _, _, _, rd4⟩ := own4.form; have RD4 := Lib.hid rd4; clear rd4 own4; have hz4 := hB4.size; (try simp only [World.size_alloc, World.size_drew] at hz4))
        | (refine step_appB (base := W1.heap.size) (xs := ([K, LI, SZ, PT, D, M] : List ByteArray)) (ys := ([endT] : List ByteArray)) elS rfl (.tmp 20) (.tmp 21) (by rfl) (by rfl) ?own (by rfl) (by rfl) ?rd oneS (by simp) (by simp [maxLen]) ?bs ?_; (case own => (repeat (first | exact own_oneAt (by first | rfl | (simp only [World.size_alloc, World.size_drew]; done)) (by first | omega | (simp only [World.size_alloc, World.size_drew] at *; omega)) | exact OL3.out | exact OW5.out | assumption | refine own_allocS ?_ _ | refine Own.below ?_ (Below.drew (Below.refl _ _)) | refine Own.below ?_ (by assumption)))); (case rd => (repeat (first | exact rd_oneAt (by first | rfl | (simp only [World.size_alloc, World.size_drew]; done)) | exact rd_twoAt (by first | rfl | (simp only [World.size_alloc, World.size_drew]; done)) | exact rd_threeAt (by first | rfl | (simp only [World.size_alloc, World.size_drew]; done)) | exact rd_sevenS _ _ _ _ _ _ _ _ | assumption | exact RD3.out | exact RD4.out | exact RD5.out | exact RD6.out | refine RdT.below ?_ ((Below.refl _ _).alloc (Nat.le_refl _) _) | refine RdT.below ?_ (Below.drew (Below.refl _ _)) | refine RdT.below ?_ (by assumption) | refine rd_far ?_ (by assumption) (own_ne OW3.out (by first | exact Or.inl (by first | omega | (simp only [World.size_alloc, World.size_drew] at *; omega)) | exact Or.inr (by first | omega | (simp only [World.size_alloc, World.size_drew] at *; omega))))))); (case bs => exact (by first | omega | (simp only [World.size_alloc, World.size_drew] at *; omega))); intro v6 w6 own6 hB6 gr6 at6; have own6 : Own encS 1 9 W1.heap.size w6 v6 ([K, LI, SZ, PT, D, M, endT] : List ByteArray) := own6; obtain ⟨A6, c6, rfl, hc6, hm6, _, rd6⟩ := own6.form; have RD6 := Lib.hid rd6; clear rd6 own6 gr6 at6)
        | (go_at_call 33; refine Calls.mono (HF.out _ A6 c6 (HT.out.below ?hb) RD6.out hc6 hm6) ?_; (case hb => refine below_below HB1 ?_; (repeat (first | assumption | exact Below.refl _ _ | refine below_alloc ?_ _ | refine Below.drew ?_ | refine below_drewN ?_ _ | refine below_below ?_ (by assumption) | refine Below.trans ?_ (by assumption)))); rintro e w7 ⟨rfl, hB7⟩))
    all_goals go_wp2_with fail
    all_goals go_ret
    all_goals exact ⟨rfl, below_below HB1 (by (repeat (first | assumption | exact Below.refl _ _ | refine below_alloc ?_ _ | refine Below.drew ?_ | refine below_drewN ?_ _ | refine below_below ?_ (by assumption) | refine Below.trans ?_ (by assumption))))⟩
set_option maxHeartbeats 8000000 in
theorem specNodePut_any (w : World) (n : Nd) : Calls Tryz.prog 11 #[n.v] w fun e w' => e = .returned (.string (nodeT n)) ∧ Below w.heap.size w w' := by
  have HO := Lib.hid (fun w => specNodeOk_any n w)
  have HBa := Lib.hid (below_alloc (Below.refl w.heap.size w) (.cells #[.int .i64 n.kind, .int .i64 n.links, .int .i64 n.size, .int .i64 n.root.at_, .int .i64 n.root.birth, .int .i64 n.root.size, .int .i64 n.root.sum, .int .i64 n.root.level, .int .i64 n.depth, .int .i64 n.many] 27))
  have BX := Lib.hid (box_new w #[.int .i64 n.kind, .int .i64 n.links, .int .i64 n.size, .int .i64 n.root.at_, .int .i64 n.root.birth, .int .i64 n.root.size, .int .i64 n.root.sum, .int .i64 n.root.level, .int .i64 n.depth, .int .i64 n.many] 27)
  unfold nodeT
  cases hok : nodeB n
  · rw [hok] at HO
    obtain ⟨kd, li, sz, ⟨a, b, z, u, l⟩, d, m⟩ := n
    simp only [Nd.v] at HO HBa BX ⊢
    clear hok
    go_enter Tryz.func11, Tryz.ntmps11
    go_wp2_with fail
    refine Calls.mono (HO.out _) ?_
    rintro e w1 ⟨rfl, hB1⟩
    have HB1 := Lib.hid (below_below HBa.out hB1)
    clear hB1
    go_wp2_with fail
    go_ret
    exact ⟨rfl, HB1.out⟩
  · rw [hok] at HO
    have hb := node_bounds hok
    have HR := recX_yes (node_rec hok)
    have HRB := node_rec hok
    have HSZ := Lib.hid (node_sizes hok)
    have HF := show ∀ W A c, RdT encS 1 W A (nodeF n) → (nodeF n).length ≤ c → c ≤ 9223372036854775807 → Calls Tryz.prog 18 #[.slice A (nodeF n).length c] W (fun e w' => e = .returned (.tuple #[.string (recT (nodeF n)), .bool true]) ∧ Below W.heap.size W w') from fun W A c rd h1 h2 => (specFieldsPut_any W A c (nodeF n) rd h1 h2 HSZ.out).mono (fun e w' h => by have h' := h.1; rw [HR, HRB] at h'; exact ⟨h', h.2⟩)
    unfold nodeF at HF ⊢
    replace HF := Lib.hid HF
    have HN4 := Lib.hid (fun w => specPtrPut_any w n.root)
    clear HR HRB HSZ
    obtain ⟨kd, li, sz, ⟨a, b, z, u, l⟩, d, m⟩ := n
    dsimp only at hb
    obtain ⟨kd, rfl⟩ : ∃ n : Nat, kd = (n : Int) := ⟨kd.toNat, by omega⟩
    obtain ⟨li, rfl⟩ : ∃ n : Nat, li = (n : Int) := ⟨li.toNat, by omega⟩
    obtain ⟨sz, rfl⟩ : ∃ n : Nat, sz = (n : Int) := ⟨sz.toNat, by omega⟩
    obtain ⟨d, rfl⟩ : ∃ n : Nat, d = (n : Int) := ⟨d.toNat, by omega⟩
    obtain ⟨m, rfl⟩ : ∃ n : Nat, m = (n : Int) := ⟨m.toNat, by omega⟩
    simp only [Nd.v, Pt.v] at HO HBa BX HF HN4 ⊢
    have HN1 := Lib.hid (fun w => dec_any kd w (by omega))
    have HN2 := Lib.hid (fun w => dec_any li w (by omega))
    have HN3 := Lib.hid (fun w => dec_any sz w (by omega))
    have HN5 := Lib.hid (fun w => dec_any d w (by omega))
    have HN6 := Lib.hid (fun w => dec_any m w (by omega))
    generalize decT (kd : Int) = K at *
    generalize decT (li : Int) = LI at *
    generalize decT (sz : Int) = SZ at *
    generalize decT (d : Int) = D at *
    generalize decT (m : Int) = M at *
    generalize ptrT ⟨a, b, z, u, l⟩ = PT at *
    generalize recT [K, LI, SZ, PT, D, M, endT] = RT at *
    clear hok hb
    go_enter Tryz.func11, Tryz.ntmps11
    go_wp2_with fail
    refine Calls.mono (HO.out _) ?_
    rintro e W1 ⟨rfl, hB1⟩
    have HB1 := below_below HBa.out hB1
    have BX1 := Lib.hid (BX.out.below hB1)
    have hlt1 := BX1.out.lt
    obtain ⟨s0, s1, s2, s3, s4, s5, s6, s7, s8, s9⟩ := node_cells BX1.out
    clear hB1 BX HO HBa
    go_wp2_with fail
    --Hs
    go_region_held3 (fun w' => w'.cell? ⟨w.heap.size, 0, none⟩ = some (.int .i64 (kd : Int)) ∧ w'.cell? ⟨w.heap.size, 1, none⟩ = some (.int .i64 (li : Int)) ∧ w'.cell? ⟨w.heap.size, 2, none⟩ = some (.int .i64 (sz : Int)) ∧ w'.cell? ⟨w.heap.size, 3, none⟩ = some (.int .i64 a) ∧ w'.cell? ⟨w.heap.size, 4, none⟩ = some (.int .i64 b) ∧ w'.cell? ⟨w.heap.size, 5, none⟩ = some (.int .i64 z) ∧ w'.cell? ⟨w.heap.size, 6, none⟩ = some (.int .i64 u) ∧ w'.cell? ⟨w.heap.size, 7, none⟩ = some (.int .i64 l) ∧ w'.cell? ⟨w.heap.size, 8, none⟩ = some (.int .i64 (d : Int)) ∧ w'.cell? ⟨w.heap.size, 9, none⟩ = some (.int .i64 (m : Int))) (first | go_keep | exact node_cells (BX1.out.below (by (repeat (first | assumption | exact Below.refl _ _ | refine below_alloc ?_ _ | refine Below.drew ?_ | refine below_drewN ?_ _ | refine below_below ?_ (by assumption) | refine Below.trans ?_ (by assumption))))))
      (first
        | (have _g := G7; go_at_call 18; clear _g; refine Calls.mono (HF.out _ _ 7 (rd_sevenS _ _ _ _ _ _ _ _) ?h1 ?h2) ?_; (case h1 => simp); (case h2 => omega); rintro e w9 ⟨rfl, hB9⟩)
        | (have _g := G6; go_at_call 25; clear _g; refine Calls.mono (HN6.out _) ?_; rintro e w7 ⟨rfl, hB7⟩; have G7 := Lib.hid hB7)
        | (have _g := G5; go_at_call 25; clear _g; refine Calls.mono (HN5.out _) ?_; rintro e w6 ⟨rfl, hB6⟩; have G6 := Lib.hid hB6)
        | (have _g := G4; go_at_call 26; clear _g; refine Calls.mono (HN4.out _) ?_; rintro e w5 ⟨rfl, hB5⟩; have G5 := Lib.hid hB5)
        | (have _g := G3; go_at_call 25; clear _g; refine Calls.mono (HN3.out _) ?_; rintro e w4 ⟨rfl, hB4⟩; have G4 := Lib.hid hB4)
        | (have _g := G2; go_at_call 25; clear _g; refine Calls.mono (HN2.out _) ?_; rintro e w3 ⟨rfl, hB3⟩; have G3 := Lib.hid hB3)
        | (go_at_call 25; refine Calls.mono (HN1.out _) ?_; rintro e w2 ⟨rfl, hB2⟩; have G2 := Lib.hid hB2))
    all_goals go_wp2_with fail
    all_goals go_ret
    all_goals exact ⟨rfl, below_below HB1 (by (repeat (first | assumption | exact Below.refl _ _ | refine below_alloc ?_ _ | refine Below.drew ?_ | refine below_drewN ?_ _ | refine below_below ?_ (by assumption) | refine Below.trans ?_ (by assumption))))⟩

end Go.Proofs.YthedmiippfpbnaaGreatDoor
