/- BlobShare: both texts' walks. -/
import Derived.Test.YtafadedacbjioaaGreatDoorMC
import Derived.Deep.CutRange
import Derived.Deep.RegionHeld3
namespace Go.Proofs.YtafadedacbjioaaGreatDoor
open Go.RowKit Go.Sort
set_option maxRecDepth 100000
set_option linter.unusedVariables false
set_option linter.unusedSimpArgs false

def sameB (p q : Pt) : Bool := p.at_ == q.at_ && (p.birth == q.birth && (p.size == q.size && (p.sum == q.sum && p.level == q.level)))
def Differ (p q : Pt) : Prop := (p.at_ == q.at_) = false ∨ ((p.at_ == q.at_) = true ∧ (p.birth == q.birth) = false) ∨ ((p.at_ == q.at_) = true ∧ (p.birth == q.birth) = true ∧ (p.size == q.size) = false) ∨ ((p.at_ == q.at_) = true ∧ (p.birth == q.birth) = true ∧ (p.size == q.size) = true ∧ (p.sum == q.sum) = false) ∨ ((p.at_ == q.at_) = true ∧ (p.birth == q.birth) = true ∧ (p.size == q.size) = true ∧ (p.sum == q.sum) = true ∧ (p.level == q.level) = false)
theorem same_cases (p q : Pt) : (sameB p q = true ∧ p = q) ∨ Differ p q := by
  obtain ⟨a, b, c, d, e⟩ := p
  obtain ⟨a', b', c', d', e'⟩ := q
  unfold sameB Differ
  dsimp only
  cases h1 : (a == a')
  · exact .inr (.inl rfl)
  cases h2 : (b == b')
  · exact .inr (.inr (.inl ⟨rfl, rfl⟩))
  cases h3 : (c == c')
  · exact .inr (.inr (.inr (.inl ⟨rfl, rfl, rfl⟩)))
  cases h4 : (d == d')
  · exact .inr (.inr (.inr (.inr (.inl ⟨rfl, rfl, rfl, rfl⟩))))
  cases h5 : (e == e')
  · exact .inr (.inr (.inr (.inr (.inr ⟨rfl, rfl, rfl, rfl, rfl⟩))))
  · refine .inl ⟨rfl, ?_⟩
    rw [eq_of_beq h1, eq_of_beq h2, eq_of_beq h3, eq_of_beq h4, eq_of_beq h5]
theorem ne_same {p q : Pt} (h : Differ p q) : sameB p q = false := by
  unfold sameB
  rcases h with e1 | ⟨e1, e2⟩ | ⟨e1, e2, e3⟩ | ⟨e1, e2, e3, e4⟩ | ⟨e1, e2, e3, e4, e5⟩
  · rw [e1]; rfl
  · rw [e1, e2]; rfl
  · rw [e1, e2, e3]; rfl
  · rw [e1, e2, e3, e4]; rfl
  · rw [e1, e2, e3, e4, e5]; rfl
def shareK (l m : List Pt) : Nat → Nat
  | 0 => 0
  | k + 1 => shareK l m k + (match l[k]?, m[k]? with | some p, some q => if (sameB p q && !holeB p) = true then 1 else 0 | _, _ => 0)
theorem shareK_step {l m : List Pt} {k : Nat} {p q : Pt} (hp : l[k]? = some p) (hq : m[k]? = some q) : shareK l m (k + 1) = shareK l m k + (if (sameB p q && !holeB p) = true then 1 else 0) := by
  rw [shareK, hp, hq]
theorem shareK_le (l m : List Pt) : ∀ k, shareK l m k ≤ k
  | 0 => Nat.le_refl _
  | k + 1 => by
    have := shareK_le l m k
    rw [shareK]
    split
    · split <;> omega
    · omega
def ShG (s : St) (tr0 tr1 : Tr) (n : Nat) (b : Bool) : Prop := ∃ l m b1 b2, TLG s tr0 l b1 ∧ TLG s tr1 m b2 ∧ n = (if (b1 && b2) = true then shareK l m (min l.length m.length) else 0) ∧ b = (b1 && b2)
theorem shG_one {s : St} {tr0 tr1 : Tr} {n n' : Nat} {b b' : Bool} (h : ShG s tr0 tr1 n b) (h' : ShG s tr0 tr1 n' b') : b = b' ∧ n = n' := by
  obtain ⟨l, m, b1, b2, h1, h2, rfl, rfl⟩ := h
  obtain ⟨l', m', b1', b2', h1', h2', rfl, rfl⟩ := h'
  obtain ⟨rfl, rfl⟩ := tlg_one h1 h1'
  obtain ⟨rfl, rfl⟩ := tlg_one h2 h2'
  exact ⟨rfl, rfl⟩
def ShP (w : World) (s : St) (tr0 tr1 : Tr) (e : Ending) (w' : World) : Prop := ∃ (n : Nat) (b : Bool), e = .returned (.tuple #[.int .i64 n, .bool b]) ∧ ShG s tr0 tr1 n b ∧ Below w.heap.size w w'
set_option maxHeartbeats 8000000 in
theorem blobShare_any (w : World) (x : SA) (s : St) (tr0 tr1 : Tr) (h : SRd w x s) (mG : x.nG ≤ 1048576) (mD : x.nD ≤ 1048576) (hz : ∀ r ∈ s.rows, r.size ≤ 9223372036854775807) (hM : MaxAt w) (hT : TenAt w) (hE : ErrAt w) :
    Calls Tryz.prog 32 #[x.v s.txg s.keep s.same, tr0.v, tr1.v] w (ShP w s tr0 tr1) := by
  have HX := Lib.hid h
  have HTL := Lib.hid (fun W (hB : Below w.heap.size w W) tr => treeLeaves_any W x s tr (HX.out.below hB) mG mD hz (hM.below hB) (hT.below hB) (hE.below hB))
  have HG := Lib.hid (fun l m b1 b2 (h1 : TLG s tr0 l b1) (h2 : TLG s tr1 m b2) => (show ShG s tr0 tr1 (if (b1 && b2) = true then shareK l m (min l.length m.length) else 0) (b1 && b2) from ⟨l, m, b1, b2, h1, h2, rfl, rfl⟩))
  have HLN := Lib.hid (fun tr l b => @tlg_len s tr l b)
  clear h HX hM hT hE hz
  have HT0 := Lib.hid (fun W hB => HTL.out W hB tr0)
  have HT1 := Lib.hid (fun W hB => HTL.out W hB tr1)
  replace HLN := Lib.hid (And.intro (HLN.out tr0) (HLN.out tr1))
  unfold ShP
  unfold TLP at HT0 HT1
  clear HTL
  generalize ShG s tr0 tr1 = P at *
  generalize TLG s tr0 = P0 at *
  generalize TLG s tr1 = P1 at *
  obtain ⟨⟨ra0, rb0, rs0, ru0, rl0⟩, dep0, many0⟩ := tr0
  obtain ⟨⟨ra1, rb1, rs1, ru1, rl1⟩, dep1, many1⟩ := tr1
  obtain ⟨R, nR, cR, A, nA, cA, B, nB, cB, G, nG, cG, D, nD, cD⟩ := x
  obtain ⟨rows, refs, last, txg, gone, keep, dead, same⟩ := s
  unfold SA.v Tr.v at *
  dsimp only at *
  have BB0 := Lib.hid (((box_new w #[.slice R nR cR, .slice A nA cA, .slice B nB cB, .int .i64 txg, .slice G nG cG, .int .i64 keep, .slice D nD cD, .bool same] 38).alloc (.cells #[.int .i64 ra0, .int .i64 rb0, .int .i64 rs0, .int .i64 ru0, .int .i64 rl0, .int .i64 dep0, .int .i64 many0] 42)).alloc (.cells #[.int .i64 ra1, .int .i64 rb1, .int .i64 rs1, .int .i64 ru1, .int .i64 rl1, .int .i64 dep1, .int .i64 many1] 42))
  have BB1 := (box_new (w.alloc (.cells #[.slice R nR cR, .slice A nA cA, .slice B nB cB, .int .i64 txg, .slice G nG cG, .int .i64 keep, .slice D nD cD, .bool same] 38)) #[.int .i64 ra0, .int .i64 rb0, .int .i64 rs0, .int .i64 ru0, .int .i64 rl0, .int .i64 dep0, .int .i64 many0] 42).alloc (.cells #[.int .i64 ra1, .int .i64 rb1, .int .i64 rs1, .int .i64 ru1, .int .i64 rl1, .int .i64 dep1, .int .i64 many1] 42)
  simp only [World.size_alloc] at BB1
  replace BB1 := Lib.hid BB1
  have BB2 := box_new ((w.alloc (.cells #[.slice R nR cR, .slice A nA cA, .slice B nB cB, .int .i64 txg, .slice G nG cG, .int .i64 keep, .slice D nD cD, .bool same] 38)).alloc (.cells #[.int .i64 ra0, .int .i64 rb0, .int .i64 rs0, .int .i64 ru0, .int .i64 rl0, .int .i64 dep0, .int .i64 many0] 42)) #[.int .i64 ra1, .int .i64 rb1, .int .i64 rs1, .int .i64 ru1, .int .i64 rl1, .int .i64 dep1, .int .i64 many1] 42
  simp only [World.size_alloc] at BB2
  replace BB2 := Lib.hid BB2
  have HBa := Lib.hid (below_alloc (below_alloc (below_alloc (Below.refl w.heap.size w) (.cells #[.slice R nR cR, .slice A nA cA, .slice B nB cB, .int .i64 txg, .slice G nG cG, .int .i64 keep, .slice D nD cD, .bool same] 38)) (.cells #[.int .i64 ra0, .int .i64 rb0, .int .i64 rs0, .int .i64 ru0, .int .i64 rl0, .int .i64 dep0, .int .i64 many0] 42)) (.cells #[.int .i64 ra1, .int .i64 rb1, .int .i64 rs1, .int .i64 ru1, .int .i64 rl1, .int .i64 dep1, .int .i64 many1] 42))
  go_enter Tryz.func32, Tryz.ntmps32
  go_wp2_with fail
  refine Calls.mono (HT0.out _ HBa.out) ?_
  rintro e w2 ⟨v1, l, b1, rfl, hG1, hO1, hB⟩
  have HG1 := Lib.hid hG1
  obtain ⟨A1, c1, rfl, q1, _, _, hr1⟩ := hO1.form
  have HR1 := Lib.hid hr1
  have HB2 := Lib.hid (below_below HBa.out hB)
  have BX0 := Lib.hid (BB0.out.below hB)
  have BX2 := Lib.hid (BB2.out.below hB)
  have bx0 := BX0.out.cell
  have bl0 := BX0.out.lt
  have bx2 := BX2.out.cell
  have bl2 := BX2.out.lt
  clear hG1 hO1 hr1 hB BB0 BB1 BB2 HBa HT0
  go_wp2_with fail
  refine Calls.mono (HT1.out _ HB2.out) ?_
  rintro e w3 ⟨v2, m, b2, rfl, hG2, hO2, hB⟩
  have HG2 := Lib.hid hG2
  obtain ⟨A2, c2, rfl, q2, _, _, hr2⟩ := hO2.form
  have HR2 := Lib.hid hr2
  have HRL := Lib.hid (HR1.out.below hB)
  have HB3 := Lib.hid (below_below HB2.out hB)
  have hn1 := HLN.out.1 l b1 HG1.out
  have hn2 := HLN.out.2 m b2 HG2.out
  have HP := Lib.hid (HG.out l m b1 b2 HG1.out HG2.out)
  clear hG2 hO2 hr2 hB bx0 bl0 bx2 bl2 BX0 BX2 HR1 HT1 HG HG1 HG2 HLN
  cases b1
  · rw [Bool.false_and, if_neg (by decide)] at HP
    clear HR2 HRL q1 q2
    generalize l.length = n1 at *
    generalize m.length = n2 at *
    go_wp2_with fail
    go_ret2
    exact ⟨0, false, rfl, HP.out, HB3.out⟩
  cases b2
  · rw [Bool.and_false, if_neg (by decide)] at HP
    clear HR2 HRL q1 q2
    generalize l.length = n1 at *
    generalize m.length = n2 at *
    go_wp2_with fail
    go_ret2
    exact ⟨0, false, rfl, HP.out, HB3.out⟩
  rw [Bool.true_and, if_pos rfl] at HP
  obtain ⟨mn, hmn⟩ : ∃ mn, mn = min l.length m.length := ⟨_, rfl⟩
  have HMN := Lib.hid hmn
  rw [← hmn] at HP
  have hmi : min (l.length : Int) (m.length : Int) = (mn : Int) := by omega
  clear hmn
  go_wp2_with fail
  --S1
  go_loopw [12, 37] (fun n y wr => ∃ k : Nat, k ≤ mn ∧ y = .int .i64 k ∧ n = .int .i64 (shareK l m k : Nat) ∧ Hid (Below w3.heap.size w3 wr)) (fun n y _ => mn - (intOf y).toNat)
  case atStart => exact ⟨0, Nat.zero_le _, rfl, rfl, Lib.hid (Below.refl _ _)⟩
  case round =>
    obtain ⟨k, hk, rfl, rfl, HBr⟩ := hrel
    have HBw := Lib.hid (below_below HB3.out HBr.out)
    have hsk := shareK_le l m k
    by_cases hlt : k < mn
    · have hkl : k < l.length := by have := HMN.out; omega
      have hkm : k < m.length := by have := HMN.out; omega
      obtain ⟨b8, o8, p, rfl, hb8, he, p0, p1, p2, p3, p4⟩ := (HRL.out.below HBr.out).ptr hkl
      obtain ⟨b9, o9, q, rfl, hb9, he', r0, r1, r2, r3, r4⟩ := (HR2.out.below HBr.out).ptr hkm
      have k2 : IntKind.i64.wrap ((k : Int) + 1) = (k : Int) + 1 := IntWalk.i64_in _ (by omega)
      have k3 : IntKind.i64.wrap ((shareK l m k : Nat) + 1 : Int) = ((shareK l m k : Nat) : Int) + 1 := IntWalk.i64_in _ (by omega)
      have HPH := Lib.hid (fun W => ptrHole_any p W)
      have HSK := Lib.hid (shareK_step he he')
      have HX9 := Lib.hid (show k < mn from hlt)
      clear he he' HR2 HRL HP
      generalize hs1 : shareK l m (k + 1) = sk1 at *
      have HS1 := Lib.hid hs1
      clear hs1
      generalize shareK l m k = sk at *
      rcases same_cases p q with ⟨hsb, rfl⟩ | hne
      · cases hh : holeB p
        · rw [hsb, hh] at HSK
          rw [hh] at HPH
          obtain ⟨pa, pb, ps, pu, pl⟩ := p
          unfold Pt.v at HPH
          dsimp only at *
          clear hsb hh
          go_wp2_with fail
          refine wp_quiet_b (by kernel_rfl) (by kernel_rfl) (fun hgrow => ?_)
          repeat (go_big_quiet_step ((go_at_call 59; exact quiet_b (HPH.out _))))
          refine wpQuiet_nil ?_
          intro w6 hww6
          replace hww6 := below_of_regrown hww6
          clear hgrow
          have HB6 := Lib.hid (below_below HBr.out hww6)
          clear hww6
          go_wp2_with fail
          refine ⟨⟨k + 1, by have := HX9.out; omega, by go_num, by (rw [HS1.out, HSK.out]; first | rfl | simp), HB6⟩, by simp [intOf]; have := HX9.out; omega⟩
        · rw [hsb, hh] at HSK
          rw [hh] at HPH
          obtain ⟨pa, pb, ps, pu, pl⟩ := p
          unfold Pt.v at HPH
          dsimp only at *
          clear hsb hh
          go_wp2_with fail
          refine wp_quiet_b (by kernel_rfl) (by kernel_rfl) (fun hgrow => ?_)
          repeat (go_big_quiet_step ((go_at_call 59; exact quiet_b (HPH.out _))))
          refine wpQuiet_nil ?_
          intro w6 hww6
          replace hww6 := below_of_regrown hww6
          clear hgrow
          have HB6 := Lib.hid (below_below HBr.out hww6)
          clear hww6
          go_wp2_with fail
          refine ⟨⟨k + 1, by have := HX9.out; omega, by go_num, by (rw [HS1.out, HSK.out]; first | rfl | simp), HB6⟩, by simp [intOf]; have := HX9.out; omega⟩
      · rw [ne_same hne, Bool.false_and] at HSK
        have HSK0 := HSK.out
        rw [if_neg (by decide), Nat.add_zero] at HSK0
        subst HSK0
        obtain ⟨pa, pb, ps, pu, pl⟩ := p
        obtain ⟨qa, qb, qs, qu, ql⟩ := q
        dsimp only at *
        clear HSK HPH k3
        rcases hne with e1 | ⟨e1, e2⟩ | ⟨e1, e2, e3⟩ | ⟨e1, e2, e3, e4⟩ | ⟨e1, e2, e3, e4, e5⟩
        all_goals
          go_wp2_with fail
          refine wp_quiet_b (by kernel_rfl) (by kernel_rfl) (fun hgrow => ?_)
          repeat (go_big_quiet_step (fail))
          refine wpQuiet_nil ?_
          intro w6 hww6
          replace hww6 := below_of_regrown hww6
          clear hgrow
          have HB6 := Lib.hid (below_below HBr.out hww6)
          clear hww6
          go_wp2_with fail
          exact ⟨⟨k + 1, by have := HX9.out; omega, by go_num, by rw [HS1.out], HB6⟩, by simp [intOf]; have := HX9.out; omega⟩

    · obtain rfl : k = mn := by omega
      clear HR2 HRL q1 q2
      generalize l.length = n1 at *
      generalize m.length = n2 at *
      go_wp2_with fail
      go_ret2
      exact ⟨_, true, rfl, HP.out, HBw.out⟩
set_option maxHeartbeats 8000000 in
theorem specBlobShare_any (w : World) (x : SA) (s : St) (tr0 tr1 : Tr) (h : SRd w x s) (mG : x.nG ≤ 1048576) (mD : x.nD ≤ 1048576) (hz : ∀ r ∈ s.rows, r.size ≤ 9223372036854775807) :
    Calls Tryz.prog 31 #[x.v s.txg s.keep s.same, tr0.v, tr1.v] w (ShP w s tr0 tr1) := by
  have HX := Lib.hid h
  have HTL := Lib.hid (fun W (hB : Below w.heap.size w W) tr => specTreeLeaves_any W x s tr (HX.out.below hB) mG mD hz)
  have HG := Lib.hid (fun l m b1 b2 (h1 : TLG s tr0 l b1) (h2 : TLG s tr1 m b2) => (show ShG s tr0 tr1 (if (b1 && b2) = true then shareK l m (min l.length m.length) else 0) (b1 && b2) from ⟨l, m, b1, b2, h1, h2, rfl, rfl⟩))
  have HLN := Lib.hid (fun tr l b => @tlg_len s tr l b)
  clear h HX hz
  have HT0 := Lib.hid (fun W hB => HTL.out W hB tr0)
  have HT1 := Lib.hid (fun W hB => HTL.out W hB tr1)
  replace HLN := Lib.hid (And.intro (HLN.out tr0) (HLN.out tr1))
  unfold ShP
  unfold TLP at HT0 HT1
  clear HTL
  generalize ShG s tr0 tr1 = P at *
  generalize TLG s tr0 = P0 at *
  generalize TLG s tr1 = P1 at *
  obtain ⟨⟨ra0, rb0, rs0, ru0, rl0⟩, dep0, many0⟩ := tr0
  obtain ⟨⟨ra1, rb1, rs1, ru1, rl1⟩, dep1, many1⟩ := tr1
  obtain ⟨R, nR, cR, A, nA, cA, B, nB, cB, G, nG, cG, D, nD, cD⟩ := x
  obtain ⟨rows, refs, last, txg, gone, keep, dead, same⟩ := s
  unfold SA.v Tr.v at *
  dsimp only at *
  have BB0 := Lib.hid (((box_new w #[.slice R nR cR, .slice A nA cA, .slice B nB cB, .int .i64 txg, .slice G nG cG, .int .i64 keep, .slice D nD cD, .bool same] 38).alloc (.cells #[.int .i64 ra0, .int .i64 rb0, .int .i64 rs0, .int .i64 ru0, .int .i64 rl0, .int .i64 dep0, .int .i64 many0] 42)).alloc (.cells #[.int .i64 ra1, .int .i64 rb1, .int .i64 rs1, .int .i64 ru1, .int .i64 rl1, .int .i64 dep1, .int .i64 many1] 42))
  have BB1 := (box_new (w.alloc (.cells #[.slice R nR cR, .slice A nA cA, .slice B nB cB, .int .i64 txg, .slice G nG cG, .int .i64 keep, .slice D nD cD, .bool same] 38)) #[.int .i64 ra0, .int .i64 rb0, .int .i64 rs0, .int .i64 ru0, .int .i64 rl0, .int .i64 dep0, .int .i64 many0] 42).alloc (.cells #[.int .i64 ra1, .int .i64 rb1, .int .i64 rs1, .int .i64 ru1, .int .i64 rl1, .int .i64 dep1, .int .i64 many1] 42)
  simp only [World.size_alloc] at BB1
  replace BB1 := Lib.hid BB1
  have BB2 := box_new ((w.alloc (.cells #[.slice R nR cR, .slice A nA cA, .slice B nB cB, .int .i64 txg, .slice G nG cG, .int .i64 keep, .slice D nD cD, .bool same] 38)).alloc (.cells #[.int .i64 ra0, .int .i64 rb0, .int .i64 rs0, .int .i64 ru0, .int .i64 rl0, .int .i64 dep0, .int .i64 many0] 42)) #[.int .i64 ra1, .int .i64 rb1, .int .i64 rs1, .int .i64 ru1, .int .i64 rl1, .int .i64 dep1, .int .i64 many1] 42
  simp only [World.size_alloc] at BB2
  replace BB2 := Lib.hid BB2
  have HBa := Lib.hid (below_alloc (below_alloc (below_alloc (Below.refl w.heap.size w) (.cells #[.slice R nR cR, .slice A nA cA, .slice B nB cB, .int .i64 txg, .slice G nG cG, .int .i64 keep, .slice D nD cD, .bool same] 38)) (.cells #[.int .i64 ra0, .int .i64 rb0, .int .i64 rs0, .int .i64 ru0, .int .i64 rl0, .int .i64 dep0, .int .i64 many0] 42)) (.cells #[.int .i64 ra1, .int .i64 rb1, .int .i64 rs1, .int .i64 ru1, .int .i64 rl1, .int .i64 dep1, .int .i64 many1] 42))
  go_enter Tryz.func31, Tryz.ntmps31
  go_wp2_with fail
  refine Calls.mono (HT0.out _ HBa.out) ?_
  rintro e w2 ⟨v1, l, b1, rfl, hG1, hO1, hB⟩
  have HG1 := Lib.hid hG1
  obtain ⟨A1, c1, rfl, q1, _, _, hr1⟩ := hO1.form
  have HR1 := Lib.hid hr1
  have HB2 := Lib.hid (below_below HBa.out hB)
  have BX0 := Lib.hid (BB0.out.below hB)
  have BX2 := Lib.hid (BB2.out.below hB)
  have bx0 := BX0.out.cell
  have bl0 := BX0.out.lt
  have bx2 := BX2.out.cell
  have bl2 := BX2.out.lt
  clear hG1 hO1 hr1 hB BB0 BB1 BB2 HBa HT0
  go_wp2_with fail
  refine Calls.mono (HT1.out _ HB2.out) ?_
  rintro e w3 ⟨v2, m, b2, rfl, hG2, hO2, hB⟩
  have HG2 := Lib.hid hG2
  obtain ⟨A2, c2, rfl, q2, _, _, hr2⟩ := hO2.form
  have HR2 := Lib.hid hr2
  have HRL := Lib.hid (HR1.out.below hB)
  have HB3 := Lib.hid (below_below HB2.out hB)
  have hn1 := HLN.out.1 l b1 HG1.out
  have hn2 := HLN.out.2 m b2 HG2.out
  have HP := Lib.hid (HG.out l m b1 b2 HG1.out HG2.out)
  clear hG2 hO2 hr2 hB bx0 bl0 bx2 bl2 BX0 BX2 HR1 HT1 HG HG1 HG2 HLN
  cases b1
  · rw [Bool.false_and, if_neg (by decide)] at HP
    clear HR2 HRL q1 q2
    generalize l.length = n1 at *
    generalize m.length = n2 at *
    go_wp2_with fail
    go_ret2
    exact ⟨0, false, rfl, HP.out, HB3.out⟩
  cases b2
  · rw [Bool.and_false, if_neg (by decide)] at HP
    clear HR2 HRL q1 q2
    generalize l.length = n1 at *
    generalize m.length = n2 at *
    go_wp2_with fail
    go_ret2
    exact ⟨0, false, rfl, HP.out, HB3.out⟩
  rw [Bool.true_and, if_pos rfl] at HP
  go_wp2_with fail
  --S1
  go_loopw [12, 13] (fun n y wr => ∃ k : Nat, k ≤ min l.length m.length ∧ y = .int .i64 k ∧ n = .int .i64 (shareK l m k : Nat) ∧ Hid (Below w3.heap.size w3 wr)) (fun n y _ => min l.length m.length - (intOf y).toNat)
  case atStart => exact ⟨0, Nat.zero_le _, rfl, rfl, Lib.hid (Below.refl _ _)⟩
  case round =>
    obtain ⟨k, hk, rfl, rfl, HBr⟩ := hrel
    have HBw := Lib.hid (below_below HB3.out HBr.out)
    have hsk := shareK_le l m k
    by_cases hlt : k < min l.length m.length
    · have hkl : k < l.length := by omega
      have hkm : k < m.length := by omega
      obtain ⟨b8, o8, p, rfl, hb8, he, p0, p1, p2, p3, p4⟩ := (HRL.out.below HBr.out).ptr hkl
      obtain ⟨b9, o9, q, rfl, hb9, he', r0, r1, r2, r3, r4⟩ := (HR2.out.below HBr.out).ptr hkm
      have k2 : IntKind.i64.wrap ((k : Int) + 1) = (k : Int) + 1 := IntWalk.i64_in _ (by omega)
      have k3 : IntKind.i64.wrap ((shareK l m k : Nat) + 1 : Int) = ((shareK l m k : Nat) : Int) + 1 := IntWalk.i64_in _ (by omega)
      have HPH := Lib.hid (fun W => specPtrHole_any p W)
      have HSK := Lib.hid (shareK_step he he')
      have HX9 := Lib.hid (show k < min l.length m.length from hlt)
      clear he he' HR2 HRL HP
      generalize hs1 : shareK l m (k + 1) = sk1 at *
      have HS1 := Lib.hid hs1
      clear hs1
      generalize shareK l m k = sk at *
      rcases same_cases p q with ⟨hsb, rfl⟩ | hne
      · cases hh : holeB p
        · rw [hsb, hh] at HSK
          rw [hh] at HPH
          obtain ⟨pa, pb, ps, pu, pl⟩ := p
          unfold Pt.v at HPH
          dsimp only at *
          clear hsb hh
          go_wp2_with fail
          refine wp_quiet_b (by kernel_rfl) (by kernel_rfl) (fun hgrow => ?_)
          repeat (go_big_quiet_step ((go_at_call 58; exact quiet_b (HPH.out _))))
          refine wpQuiet_nil ?_
          intro w6 hww6
          replace hww6 := below_of_regrown hww6
          clear hgrow
          have HB6 := Lib.hid (below_below HBr.out hww6)
          clear hww6
          go_wp2_with fail
          refine ⟨⟨k + 1, by have := HX9.out; omega, by go_num, by (rw [HS1.out, HSK.out]; first | rfl | simp), HB6⟩, by simp [intOf]; have := HX9.out; omega⟩
        · rw [hsb, hh] at HSK
          rw [hh] at HPH
          obtain ⟨pa, pb, ps, pu, pl⟩ := p
          unfold Pt.v at HPH
          dsimp only at *
          clear hsb hh
          go_wp2_with fail
          refine wp_quiet_b (by kernel_rfl) (by kernel_rfl) (fun hgrow => ?_)
          repeat (go_big_quiet_step ((go_at_call 58; exact quiet_b (HPH.out _))))
          refine wpQuiet_nil ?_
          intro w6 hww6
          replace hww6 := below_of_regrown hww6
          clear hgrow
          have HB6 := Lib.hid (below_below HBr.out hww6)
          clear hww6
          go_wp2_with fail
          refine ⟨⟨k + 1, by have := HX9.out; omega, by go_num, by (rw [HS1.out, HSK.out]; first | rfl | simp), HB6⟩, by simp [intOf]; have := HX9.out; omega⟩
      · rw [ne_same hne, Bool.false_and] at HSK
        have HSK0 := HSK.out
        rw [if_neg (by decide), Nat.add_zero] at HSK0
        subst HSK0
        obtain ⟨pa, pb, ps, pu, pl⟩ := p
        obtain ⟨qa, qb, qs, qu, ql⟩ := q
        dsimp only at *
        clear HSK HPH k3
        rcases hne with e1 | ⟨e1, e2⟩ | ⟨e1, e2, e3⟩ | ⟨e1, e2, e3, e4⟩ | ⟨e1, e2, e3, e4, e5⟩
        all_goals
          go_wp2_with fail
          refine wp_quiet_b (by kernel_rfl) (by kernel_rfl) (fun hgrow => ?_)
          repeat (go_big_quiet_step (fail))
          refine wpQuiet_nil ?_
          intro w6 hww6
          replace hww6 := below_of_regrown hww6
          clear hgrow
          have HB6 := Lib.hid (below_below HBr.out hww6)
          clear hww6
          go_wp2_with fail
          exact ⟨⟨k + 1, by have := HX9.out; omega, by go_num, by rw [HS1.out], HB6⟩, by simp [intOf]; have := HX9.out; omega⟩

    · obtain rfl : k = min l.length m.length := by omega
      clear HR2 HRL q1 q2
      rcases Nat.lt_or_ge (min l.length m.length) l.length with g1 | g1
      · have g2 : ¬ min l.length m.length < m.length := by omega
        generalize shareK l m (min l.length m.length) = sk at *
        generalize min l.length m.length = mm at *
        generalize l.length = n1 at *
        generalize m.length = n2 at *
        go_wp2_with fail
        go_ret2
        exact ⟨_, true, rfl, HP.out, HBw.out⟩
      · generalize shareK l m (min l.length m.length) = sk at *
        generalize min l.length m.length = mm at *
        generalize l.length = n1 at *
        generalize m.length = n2 at *
        go_wp2_with fail
        go_ret2
        exact ⟨_, true, rfl, HP.out, HBw.out⟩

end Go.Proofs.YtafadedacbjioaaGreatDoor

/- FnExactBlobShare returns true for every store and every two trees. The package-level variables that its row lists are tied; no condition of ours. -/
namespace Go.Proofs.YtafadedacbjioaaGreatDoor.lawExactBlobShare
open Go.ChangeShapes Go.WideShapes Go.ChangeAt Go.RowKit Go.Sort
set_option maxRecDepth 100000
set_option linter.unusedVariables false
set_option linter.unusedSimpArgs false

theorem maxAt_of {W : World} (h : W.ShapedOpen Tryz.prog) : MaxAt W := Tryz.laysM146.s1_3 W h
theorem st8 {w : World} {b : Nat} {c0 c1 c2 c3 c4 c5 c6 c7 : Value} {T : TypeId} (h : BoxAt w b #[c0, c1, c2, c3, c4, c5, c6, c7] T) :
    w.cell? ⟨b, 0, none⟩ = some c0 ∧ w.cell? ⟨b, 1, none⟩ = some c1 ∧ w.cell? ⟨b, 2, none⟩ = some c2 ∧ w.cell? ⟨b, 3, none⟩ = some c3 ∧ w.cell? ⟨b, 4, none⟩ = some c4 ∧ w.cell? ⟨b, 5, none⟩ = some c5 ∧ w.cell? ⟨b, 6, none⟩ = some c6 ∧ w.cell? ⟨b, 7, none⟩ = some c7 :=
  ⟨h.cell 0, h.cell 1, h.cell 2, h.cell 3, h.cell 4, h.cell 5, h.cell 6, h.cell 7⟩


set_option maxHeartbeats 8000000 in
theorem walk (w : World) (x : SA) (s : St) (tr0 : Tr) (tr1 : Tr) (h : SRd w x s) (hz : ∀ r ∈ s.rows, r.size ≤ 9223372036854775807) (hM : MaxAt w) (hT : TenAt w) (hE : ErrAt w) :
    Calls Tryz.prog 8 #[x.v s.txg s.keep s.same, tr0.v, tr1.v] w fun e w' => e = .returned (.bool true) ∧ Below w.heap.size w w' := by
  have HX := Lib.hid h
  have LB := Lib.hid (And.intro hM (And.intro hT hE))
  have SZ := Lib.hid (fun W (hB : Below w.heap.size w W) => szStore_any W x s (HX.out.below hB) hz)
  have TS := Lib.hid (fun (hb : x.nR ≤ 1048576 ∧ x.nA ≤ 1048576 ∧ x.nB ≤ 1048576 ∧ x.nG ≤ 1048576 ∧ x.nD ≤ 1048576) W (hB : Below w.heap.size w W) => toStore_any W x s (HX.out.below hB) hb.1 hb.2.1 hb.2.2.1 hb.2.2.2.1 hb.2.2.2.2)
  have TT0 := Lib.hid (fun W => toTreeT_any tr0 W)
  have TT1 := Lib.hid (fun W => toTreeT_any tr1 W)
  have SO := Lib.hid (fun W (y : SA) (h : SRd W y s) g d => (specBlobShare_any W y s tr0 tr1 h g d hz : Calls Tryz.prog 31 #[SA.v y s.txg s.keep s.same, tr0.v, tr1.v] W (ShP W s tr0 tr1)))
  have IO := Lib.hid (fun W (y : SA) (h : SRd W y s) (hB : Below w.heap.size w W) g d => (blobShare_any W y s tr0 tr1 h g d hz (LB.out.1.below hB) (LB.out.2.1.below hB) (LB.out.2.2.below hB) : Calls Tryz.prog 32 #[SA.v y s.txg s.keep s.same, tr0.v, tr1.v] W (ShP W s tr0 tr1)))
  have EQ := Lib.hid (fun W (y z : SA) (h : SRd W y s) (h' : SRd W z s) => eqStore_true W y z s h h')
  have LG := Lib.hid HX.out.lG
  have LD := Lib.hid HX.out.lD
  unfold ShP at SO IO
  generalize hPP : ShG s tr0 tr1 = PP at *
  have HPP := Lib.hid hPP
  clear hPP
  clear h HX hM hT hE hz
  obtain ⟨⟨ra0, rb0, rs0, ru0, rl0⟩, dep0, many0⟩ := tr0
  obtain ⟨⟨ra1, rb1, rs1, ru1, rl1⟩, dep1, many1⟩ := tr1
  obtain ⟨R, nR, cR, A, nA, cA, B, nB, cB, G, nG, cG, D, nD, cD⟩ := x
  obtain ⟨rows, refs, last, txg, gone, keep, dead, same⟩ := s
  unfold SA.v Tr.v at *
  dsimp only at *
  have HBw := Lib.hid (below_alloc (below_alloc (below_alloc (Below.refl w.heap.size w) (.cells #[.slice R nR cR, .slice A nA cA, .slice B nB cB, .int .i64 txg, .slice G nG cG, .int .i64 keep, .slice D nD cD, .bool same] 28)) (.cells #[.int .i64 ra0, .int .i64 rb0, .int .i64 rs0, .int .i64 ru0, .int .i64 rl0, .int .i64 dep0, .int .i64 many0] 32)) (.cells #[.int .i64 ra1, .int .i64 rb1, .int .i64 rs1, .int .i64 ru1, .int .i64 rl1, .int .i64 dep1, .int .i64 many1] 32))
  have BB0 := ((box_new w #[.slice R nR cR, .slice A nA cA, .slice B nB cB, .int .i64 txg, .slice G nG cG, .int .i64 keep, .slice D nD cD, .bool same] 28).alloc (.cells #[.int .i64 ra0, .int .i64 rb0, .int .i64 rs0, .int .i64 ru0, .int .i64 rl0, .int .i64 dep0, .int .i64 many0] 32)).alloc (.cells #[.int .i64 ra1, .int .i64 rb1, .int .i64 rs1, .int .i64 ru1, .int .i64 rl1, .int .i64 dep1, .int .i64 many1] 32)
  replace BB0 := Lib.hid BB0
  have BB1 := (box_new (w.alloc (.cells #[.slice R nR cR, .slice A nA cA, .slice B nB cB, .int .i64 txg, .slice G nG cG, .int .i64 keep, .slice D nD cD, .bool same] 28)) #[.int .i64 ra0, .int .i64 rb0, .int .i64 rs0, .int .i64 ru0, .int .i64 rl0, .int .i64 dep0, .int .i64 many0] 32).alloc (.cells #[.int .i64 ra1, .int .i64 rb1, .int .i64 rs1, .int .i64 ru1, .int .i64 rl1, .int .i64 dep1, .int .i64 many1] 32)
  simp only [World.size_alloc] at BB1
  replace BB1 := Lib.hid BB1
  have BB2 := box_new ((w.alloc (.cells #[.slice R nR cR, .slice A nA cA, .slice B nB cB, .int .i64 txg, .slice G nG cG, .int .i64 keep, .slice D nD cD, .bool same] 28)).alloc (.cells #[.int .i64 ra0, .int .i64 rb0, .int .i64 rs0, .int .i64 ru0, .int .i64 rl0, .int .i64 dep0, .int .i64 many0] 32)) #[.int .i64 ra1, .int .i64 rb1, .int .i64 rs1, .int .i64 ru1, .int .i64 rl1, .int .i64 dep1, .int .i64 many1] 32
  simp only [World.size_alloc] at BB2
  replace BB2 := Lib.hid BB2
  go_enter Tryz.func8, Tryz.ntmps8
  go_wp2_with fail
  refine Calls.mono (SZ.out _ HBw.out) ?_
  rintro e w1 ⟨z, rfl, hzz, hB⟩
  have BX0 := Lib.hid (BB0.out.below hB)
  have BX1 := Lib.hid (BB1.out.below hB)
  have BX2 := Lib.hid (BB2.out.below hB)
  have HB1 := below_below HBw.out hB
  clear hB HBw SZ BB0 BB1 BB2
  by_cases hneg : z < 0
  · go_wp2_with fail
    go_ret
    exact ⟨rfl, HB1⟩
  have hbb := hzz (by omega)
  have T1 := Lib.hid (TS.out hbb)
  dsimp only at hbb
  have HGG := Lib.hid (show gone.length ≤ 1048576 by have := LG.out; have := hbb.2.2.2.1; omega)
  have HDD := Lib.hid (show dead.length ≤ 1048576 by have := LD.out; have := hbb.2.2.2.2; omega)
  clear hzz hbb TS
  have bx0 := BX0.out.cell
  have bl0 := BX0.out.lt
  have bx1 := BX1.out.cell
  have bl1 := BX1.out.lt
  have bx2 := BX2.out.cell
  have bl2 := BX2.out.lt
  go_wp2_with fail
  --H5
  go_region_held3 (fun w' => (w'.cell? ⟨w.heap.size, 0, none⟩ = some (.slice R nR cR) ∧ w'.cell? ⟨w.heap.size, 1, none⟩ = some (.slice A nA cA) ∧ w'.cell? ⟨w.heap.size, 2, none⟩ = some (.slice B nB cB) ∧ w'.cell? ⟨w.heap.size, 3, none⟩ = some (.int .i64 txg) ∧ w'.cell? ⟨w.heap.size, 4, none⟩ = some (.slice G nG cG) ∧ w'.cell? ⟨w.heap.size, 5, none⟩ = some (.int .i64 keep) ∧ w'.cell? ⟨w.heap.size, 6, none⟩ = some (.slice D nD cD) ∧ w'.cell? ⟨w.heap.size, 7, none⟩ = some (.bool same)) ∧ (w'.cell? ⟨w.heap.size + 1, 0, none⟩ = some (.int .i64 ra0) ∧ w'.cell? ⟨w.heap.size + 1, 1, none⟩ = some (.int .i64 rb0) ∧ w'.cell? ⟨w.heap.size + 1, 2, none⟩ = some (.int .i64 rs0) ∧ w'.cell? ⟨w.heap.size + 1, 3, none⟩ = some (.int .i64 ru0) ∧ w'.cell? ⟨w.heap.size + 1, 4, none⟩ = some (.int .i64 rl0) ∧ w'.cell? ⟨w.heap.size + 1, 5, none⟩ = some (.int .i64 dep0) ∧ w'.cell? ⟨w.heap.size + 1, 6, none⟩ = some (.int .i64 many0)) ∧ (w'.cell? ⟨w.heap.size + 1 + 1, 0, none⟩ = some (.int .i64 ra1) ∧ w'.cell? ⟨w.heap.size + 1 + 1, 1, none⟩ = some (.int .i64 rb1) ∧ w'.cell? ⟨w.heap.size + 1 + 1, 2, none⟩ = some (.int .i64 rs1) ∧ w'.cell? ⟨w.heap.size + 1 + 1, 3, none⟩ = some (.int .i64 ru1) ∧ w'.cell? ⟨w.heap.size + 1 + 1, 4, none⟩ = some (.int .i64 rl1) ∧ w'.cell? ⟨w.heap.size + 1 + 1, 5, none⟩ = some (.int .i64 dep1) ∧ w'.cell? ⟨w.heap.size + 1 + 1, 6, none⟩ = some (.int .i64 many1))) (first | exact ⟨st8 (BX0.out.below (by (repeat (first | assumption | exact Below.refl _ _ | refine below_alloc ?_ _ | refine Below.drew ?_ | refine below_drewN ?_ _ | refine below_below ?_ (by assumption))))), tree_cellsL (BX1.out.below (by (repeat (first | assumption | exact Below.refl _ _ | refine below_alloc ?_ _ | refine Below.drew ?_ | refine below_drewN ?_ _ | refine below_below ?_ (by assumption))))), tree_cellsL (BX2.out.below (by (repeat (first | assumption | exact Below.refl _ _ | refine below_alloc ?_ _ | refine Below.drew ?_ | refine below_drewN ?_ _ | refine below_below ?_ (by assumption)))))⟩)
    (first
      | (have _g := G3; go_at_call 31; clear _g; refine Calls.mono (SO.out _ ⟨R8, nR8, cR8, A8, nA8, cA8, B8, nB8, cB8, G8, nG8, cG8, D8, nD8, cD8⟩ (X2.out.below (by (repeat (first | assumption | exact Below.refl _ _ | refine below_alloc ?_ _ | refine Below.drew ?_ | refine below_drewN ?_ _ | refine below_below ?_ (by assumption))))) (by have := X2.out.lG; have := HGG.out; dsimp only at *; omega) (by have := X2.out.lD; have := HDD.out; dsimp only at *; omega)) ?_; rintro e w4 ⟨na, ba, rfl, hS4, hB4⟩; have HS4 := Lib.hid hS4; clear hS4)
      | (have _g := G3p0; go_at_call 13; clear _g; refine Calls.mono (TT1.out _) ?_; rintro e w3_1 ⟨rfl, hB3_1⟩; have G3p1 := Lib.hid hB3_1; have G3 := Lib.hid hB3_1)
      | (go_at_call 13; refine Calls.mono (TT0.out _) ?_; rintro e w3_0 ⟨rfl, hB3_0⟩; have G3p0 := Lib.hid hB3_0)
      | (go_at_call 12; refine Calls.mono (T1.out _ (by refine below_below HB1 ?_; (repeat (first | assumption | exact Below.refl _ _ | refine below_alloc ?_ _ | refine Below.drew ?_ | refine below_drewN ?_ _ | refine below_below ?_ (by assumption))))) ?_; rintro e w2 ⟨⟨R8, nR8, cR8, A8, nA8, cA8, B8, nB8, cB8, G8, nG8, cG8, D8, nD8, cD8⟩, he, hr, hB2⟩; unfold SA.v at he; dsimp only at he; subst he; have X2 := Lib.hid hr; clear hr))
  have H14 := Lib.hid (show Below w1.heap.size w1 w4 from by (repeat (first | assumption | exact Below.refl _ _ | refine below_alloc ?_ _ | refine Below.drew ?_ | refine below_drewN ?_ _ | refine below_below ?_ (by assumption))))
  have BY0 := Lib.hid (BX0.out.below H14.out)
  have BY1 := Lib.hid (BX1.out.below H14.out)
  have BY2 := Lib.hid (BX2.out.below H14.out)
  have HB4 := below_below HB1 H14.out
  clear bx0 bl0 BX0 bx1 bl1 BX1 bx2 bl2 BX2 hB2 hB4 hB3_0 G3p0 hB3_1 G3p1 G3 X2 H14 HB1
  have bx0 := BY0.out.cell
  have bl0 := BY0.out.lt
  have bx1 := BY1.out.cell
  have bl1 := BY1.out.lt
  have bx2 := BY2.out.cell
  have bl2 := BY2.out.lt
  go_wp2_with fail
  refine Calls.mono (T1.out _ HB4) ?_
  rintro e w5 ⟨⟨R5, nR5, cR5, A5, nA5, cA5, B5, nB5, cB5, G5, nG5, cG5, D5, nD5, cD5⟩, he, hr, hB5⟩
  unfold SA.v at he
  dsimp only at he
  subst he
  have X5 := Lib.hid (hr.below (below_alloc (Below.refl w5.heap.size w5) (.cells #[.slice R5 nR5 cR5, .slice A5 nA5 cA5, .slice B5 nB5 cB5, .int .i64 txg, .slice G5 nG5 cG5, .int .i64 keep, .slice D5 nD5 cD5, .bool same] 38)))
  have BZ := Lib.hid (box_new w5 #[.slice R5 nR5 cR5, .slice A5 nA5 cA5, .slice B5 nB5 cB5, .int .i64 txg, .slice G5 nG5 cG5, .int .i64 keep, .slice D5 nD5 cD5, .bool same] 38)
  have BV0 := Lib.hid ((BY0.out.below hB5).alloc (.cells #[.slice R5 nR5 cR5, .slice A5 nA5 cA5, .slice B5 nB5 cB5, .int .i64 txg, .slice G5 nG5 cG5, .int .i64 keep, .slice D5 nD5 cD5, .bool same] 38))
  have BV1 := Lib.hid ((BY1.out.below hB5).alloc (.cells #[.slice R5 nR5 cR5, .slice A5 nA5 cA5, .slice B5 nB5 cB5, .int .i64 txg, .slice G5 nG5 cG5, .int .i64 keep, .slice D5 nD5 cD5, .bool same] 38))
  have BV2 := Lib.hid ((BY2.out.below hB5).alloc (.cells #[.slice R5 nR5 cR5, .slice A5 nA5 cA5, .slice B5 nB5 cB5, .int .i64 txg, .slice G5 nG5 cG5, .int .i64 keep, .slice D5 nD5 cD5, .bool same] 38))
  have HB6 := below_alloc (below_below HB4 hB5) (.cells #[.slice R5 nR5 cR5, .slice A5 nA5 cA5, .slice B5 nB5 cB5, .int .i64 txg, .slice G5 nG5 cG5, .int .i64 keep, .slice D5 nD5 cD5, .bool same] 38)
  clear hB5 hr HB4 bx0 bl0 BY0 bx1 bl1 BY1 bx2 bl2 BY2
  have hz5 : w5.heap.size < (w5.alloc (.cells #[.slice R5 nR5 cR5, .slice A5 nA5 cA5, .slice B5 nB5 cB5, .int .i64 txg, .slice G5 nG5 cG5, .int .i64 keep, .slice D5 nD5 cD5, .bool same] 38)).heap.size := by simp
  go_wp2_with fail
  generalize w5.alloc (.cells #[.slice R5 nR5 cR5, .slice A5 nA5 cA5, .slice B5 nB5 cB5, .int .i64 txg, .slice G5 nG5 cG5, .int .i64 keep, .slice D5 nD5 cD5, .bool same] 38) = W6 at *
  have bx0 := BV0.out.cell
  have bl0 := BV0.out.lt
  have bx1 := BV1.out.cell
  have bl1 := BV1.out.lt
  have bx2 := BV2.out.cell
  have bl2 := BV2.out.lt
  have bz := BZ.out.cell
  --H7
  go_region_held3 (fun w' => (w'.cell? ⟨w5.heap.size, 0, none⟩ = some (.slice R5 nR5 cR5) ∧ w'.cell? ⟨w5.heap.size, 1, none⟩ = some (.slice A5 nA5 cA5) ∧ w'.cell? ⟨w5.heap.size, 2, none⟩ = some (.slice B5 nB5 cB5) ∧ w'.cell? ⟨w5.heap.size, 3, none⟩ = some (.int .i64 txg) ∧ w'.cell? ⟨w5.heap.size, 4, none⟩ = some (.slice G5 nG5 cG5) ∧ w'.cell? ⟨w5.heap.size, 5, none⟩ = some (.int .i64 keep) ∧ w'.cell? ⟨w5.heap.size, 6, none⟩ = some (.slice D5 nD5 cD5) ∧ w'.cell? ⟨w5.heap.size, 7, none⟩ = some (.bool same)) ∧ (w'.cell? ⟨w.heap.size + 1, 0, none⟩ = some (.int .i64 ra0) ∧ w'.cell? ⟨w.heap.size + 1, 1, none⟩ = some (.int .i64 rb0) ∧ w'.cell? ⟨w.heap.size + 1, 2, none⟩ = some (.int .i64 rs0) ∧ w'.cell? ⟨w.heap.size + 1, 3, none⟩ = some (.int .i64 ru0) ∧ w'.cell? ⟨w.heap.size + 1, 4, none⟩ = some (.int .i64 rl0) ∧ w'.cell? ⟨w.heap.size + 1, 5, none⟩ = some (.int .i64 dep0) ∧ w'.cell? ⟨w.heap.size + 1, 6, none⟩ = some (.int .i64 many0)) ∧ (w'.cell? ⟨w.heap.size + 1 + 1, 0, none⟩ = some (.int .i64 ra1) ∧ w'.cell? ⟨w.heap.size + 1 + 1, 1, none⟩ = some (.int .i64 rb1) ∧ w'.cell? ⟨w.heap.size + 1 + 1, 2, none⟩ = some (.int .i64 rs1) ∧ w'.cell? ⟨w.heap.size + 1 + 1, 3, none⟩ = some (.int .i64 ru1) ∧ w'.cell? ⟨w.heap.size + 1 + 1, 4, none⟩ = some (.int .i64 rl1) ∧ w'.cell? ⟨w.heap.size + 1 + 1, 5, none⟩ = some (.int .i64 dep1) ∧ w'.cell? ⟨w.heap.size + 1 + 1, 6, none⟩ = some (.int .i64 many1))) (first | exact ⟨st8 (BZ.out.below (by (repeat (first | assumption | exact Below.refl _ _ | refine below_alloc ?_ _ | refine Below.drew ?_ | refine below_drewN ?_ _ | refine below_below ?_ (by assumption))))), tree_cellsL (BV1.out.below (by (repeat (first | assumption | exact Below.refl _ _ | refine below_alloc ?_ _ | refine Below.drew ?_ | refine below_drewN ?_ _ | refine below_below ?_ (by assumption))))), tree_cellsL (BV2.out.below (by (repeat (first | assumption | exact Below.refl _ _ | refine below_alloc ?_ _ | refine Below.drew ?_ | refine below_drewN ?_ _ | refine below_below ?_ (by assumption)))))⟩)
    (first
      | (have _g := G7; go_at_call 32; clear _g; refine Calls.mono (IO.out _ ⟨R5, nR5, cR5, A5, nA5, cA5, B5, nB5, cB5, G5, nG5, cG5, D5, nD5, cD5⟩ (X5.out.below (by (repeat (first | assumption | exact Below.refl _ _ | refine below_alloc ?_ _ | refine Below.drew ?_ | refine below_drewN ?_ _ | refine below_below ?_ (by assumption))))) (by refine below_below HB6 ?_; (repeat (first | assumption | exact Below.refl _ _ | refine below_alloc ?_ _ | refine Below.drew ?_ | refine below_drewN ?_ _ | refine below_below ?_ (by assumption)))) (by have := X5.out.lG; have := HGG.out; dsimp only at *; omega) (by have := X5.out.lD; have := HDD.out; dsimp only at *; omega)) ?_; rintro e w8 ⟨nb, bb, rfl, hS8, hB8⟩; have HS8 := Lib.hid hS8; clear hS8)
      | (have _g := G7p0; go_at_call 13; clear _g; refine Calls.mono (TT1.out _) ?_; rintro e w7_1 ⟨rfl, hB7_1⟩; have G7p1 := Lib.hid hB7_1; have G7 := Lib.hid hB7_1)
      | (go_at_call 13; refine Calls.mono (TT0.out _) ?_; rintro e w7_0 ⟨rfl, hB7_0⟩; have G7p0 := Lib.hid hB7_0))
  have H68 := Lib.hid (show Below W6.heap.size W6 w8 from by (repeat (first | assumption | exact Below.refl _ _ | refine below_alloc ?_ _ | refine Below.drew ?_ | refine below_drewN ?_ _ | refine below_below ?_ (by assumption))))
  have HB8 := below_below HB6 H68.out
  have BZ8 := Lib.hid (BZ.out.below H68.out)
  have X8 := Lib.hid (X5.out.below H68.out)
  have BV8 := Lib.hid (BV0.out.below H68.out)
  clear hz5 bz hB8 hB7_0 G7p0 hB7_1 G7p1 G7 bx0 bl0 BV0 bx1 bl1 BV1 bx2 bl2 BV2 BZ X5 H68 HB6 SO IO TT0 TT1
  obtain ⟨rfl, rfl⟩ := shG_one (HPP.out ▸ HS4.out) (HPP.out ▸ HS8.out)
  have e1 : (ba != ba) = false := by simp
  have e2 : ((na : Int) != (na : Int)) = false := by simp
  have bz := BZ8.out.cell
  have bzl := BZ8.out.lt
  have bv := BV8.out.cell
  have bvl := BV8.out.lt
  go_wp2_with fail
  --H10
  go_region_held3 (fun w' => (w'.cell? ⟨w5.heap.size, 0, none⟩ = some (.slice R5 nR5 cR5) ∧ w'.cell? ⟨w5.heap.size, 1, none⟩ = some (.slice A5 nA5 cA5) ∧ w'.cell? ⟨w5.heap.size, 2, none⟩ = some (.slice B5 nB5 cB5) ∧ w'.cell? ⟨w5.heap.size, 3, none⟩ = some (.int .i64 txg) ∧ w'.cell? ⟨w5.heap.size, 4, none⟩ = some (.slice G5 nG5 cG5) ∧ w'.cell? ⟨w5.heap.size, 5, none⟩ = some (.int .i64 keep) ∧ w'.cell? ⟨w5.heap.size, 6, none⟩ = some (.slice D5 nD5 cD5) ∧ w'.cell? ⟨w5.heap.size, 7, none⟩ = some (.bool same)) ∧ (w'.cell? ⟨w.heap.size, 0, none⟩ = some (.slice R nR cR) ∧ w'.cell? ⟨w.heap.size, 1, none⟩ = some (.slice A nA cA) ∧ w'.cell? ⟨w.heap.size, 2, none⟩ = some (.slice B nB cB) ∧ w'.cell? ⟨w.heap.size, 3, none⟩ = some (.int .i64 txg) ∧ w'.cell? ⟨w.heap.size, 4, none⟩ = some (.slice G nG cG) ∧ w'.cell? ⟨w.heap.size, 5, none⟩ = some (.int .i64 keep) ∧ w'.cell? ⟨w.heap.size, 6, none⟩ = some (.slice D nD cD) ∧ w'.cell? ⟨w.heap.size, 7, none⟩ = some (.bool same))) (first | exact ⟨st8 (BZ8.out.below (by (repeat (first | assumption | exact Below.refl _ _ | refine below_alloc ?_ _ | refine Below.drew ?_ | refine below_drewN ?_ _ | refine below_below ?_ (by assumption))))), st8 (BV8.out.below (by (repeat (first | assumption | exact Below.refl _ _ | refine below_alloc ?_ _ | refine Below.drew ?_ | refine below_drewN ?_ _ | refine below_below ?_ (by assumption)))))⟩)
    (first
      | (go_at_call 12; refine Calls.mono (T1.out _ (by refine below_below HB8 ?_; (repeat (first | assumption | exact Below.refl _ _ | refine below_alloc ?_ _ | refine Below.drew ?_ | refine below_drewN ?_ _ | refine below_below ?_ (by assumption))))) ?_; rintro e w9 ⟨⟨R9, nR9, cR9, A9, nA9, cA9, B9, nB9, cB9, G9, nG9, cG9, D9, nD9, cD9⟩, he, hr, hB9⟩; unfold SA.v at he; dsimp only at he; subst he; have X9 := Lib.hid hr; clear hr)
      | (go_at_call 15; refine Calls.mono (EQ.out _ ⟨R5, nR5, cR5, A5, nA5, cA5, B5, nB5, cB5, G5, nG5, cG5, D5, nD5, cD5⟩ ⟨R9, nR9, cR9, A9, nA9, cA9, B9, nB9, cB9, G9, nG9, cG9, D9, nD9, cD9⟩ (X8.out.below (by (repeat (first | assumption | exact Below.refl _ _ | refine below_alloc ?_ _ | refine Below.drew ?_ | refine below_drewN ?_ _ | refine below_below ?_ (by assumption))))) (X9.out.below (by (repeat (first | assumption | exact Below.refl _ _ | refine below_alloc ?_ _ | refine Below.drew ?_ | refine below_drewN ?_ _ | refine below_below ?_ (by assumption)))))) ?_; rintro e wa ⟨rfl, hBa⟩))
  go_wp2_with fail
  go_ret
  exact ⟨rfl, below_below HB8 (by (repeat (first | assumption | exact Below.refl _ _ | refine below_alloc ?_ _ | refine Below.drew ?_ | refine below_drewN ?_ _ | refine below_below ?_ (by assumption))))⟩

theorem laid_met (os : Os) : laidMet Tryz.prog Rows.fnExactBlobShareRow.laid ((World.laidAll Tryz.prog os Rows.fnExactBlobShareRow.laid).forCall (fun _ _ => 0) ⟨#[], #[.agg #[.slice none 0 0, .slice none 0 0, .slice none 0 0, .int .i64 0, .slice none 0 0, .int .i64 0, .slice none 0 0, .bool false], .agg #[.int .i64 0, .int .i64 0, .int .i64 0, .int .i64 0, .int .i64 0, .int .i64 0, .int .i64 0], .agg #[.int .i64 0, .int .i64 0, .int .i64 0, .int .i64 0, .int .i64 0, .int .i64 0, .int .i64 0]], []⟩).memory := laidMet_laidAll _ (by kernel_rfl) (by kernel_rfl)
theorem reads (os : Os) {H : Type} (enc : TypeId × Value → H) : ∃ places, DataW.whole enc Tryz.prog ((World.laidAll Tryz.prog os Rows.fnExactBlobShareRow.laid).forCall (fun _ _ => 0) ⟨#[], #[.agg #[.slice none 0 0, .slice none 0 0, .slice none 0 0, .int .i64 0, .slice none 0 0, .int .i64 0, .slice none 0 0, .bool false], .agg #[.int .i64 0, .int .i64 0, .int .i64 0, .int .i64 0, .int .i64 0, .int .i64 0, .int .i64 0], .agg #[.int .i64 0, .int .i64 0, .int .i64 0, .int .i64 0, .int .i64 0, .int .i64 0, .int .i64 0]], []⟩).memory Tryz.f8.params.toList Rows.fnExactBlobShareSpec.vars false (#[.agg #[.slice none 0 0, .slice none 0 0, .slice none 0 0, .int .i64 0, .slice none 0 0, .int .i64 0, .slice none 0 0, .bool false], .agg #[.int .i64 0, .int .i64 0, .int .i64 0, .int .i64 0, .int .i64 0, .int .i64 0, .int .i64 0], .agg #[.int .i64 0, .int .i64 0, .int .i64 0, .int .i64 0, .int .i64 0, .int .i64 0, .int .i64 0]] : Array Value).toList 8 = some ([.agg [.nil, .agg [.nil, .nil], .lit (.int .i64 0), .nil, .lit (.int .i64 0), .nil, .lit (.bool false)], .agg [.agg [.lit (.int .i64 0), .lit (.int .i64 0), .lit (.int .i64 0), .lit (.int .i64 0), .lit (.int .i64 0)], .lit (.int .i64 0), .lit (.int .i64 0)], .agg [.agg [.lit (.int .i64 0), .lit (.int .i64 0), .lit (.int .i64 0), .lit (.int .i64 0), .lit (.int .i64 0)], .lit (.int .i64 0), .lit (.int .i64 0)]], [], places) :=
  ⟨[], by kernel_rfl⟩

set_option maxRecDepth 100000 in
theorem lifted (os : Os) (started : os.Started) (H : Type) (enc : TypeId × Value → H) (F : Stop.Interp) :
    ReturnsInHanded {} Tryz.checked os 8 .any ((OpenSpec.ofChange Rows.fnExactBlobShareSpec).preRow enc Tryz.prog Tryz.f8 Rows.fnExactBlobShareRow.domain false Rows.fnExactBlobShareRow.laid) (((OpenSpec.ofChange Rows.fnExactBlobShareSpec).at F).post enc Tryz.prog Tryz.f8 false true false false) := by
  obtain ⟨places, hx⟩ := reads os enc
  refine returnsInHanded_of_row (C := Tryz.checked) (s := OpenSpec.ofChange Rows.fnExactBlobShareSpec) own started (by kernel_rfl) Tryz.func8
    (witness_row_at (enc := enc) (C := Tryz.checked) false (World.laidAll Tryz.prog os Rows.fnExactBlobShareRow.laid) #[.agg #[.slice none 0 0, .slice none 0 0, .slice none 0 0, .int .i64 0, .slice none 0 0, .int .i64 0, .slice none 0 0, .bool false], .agg #[.int .i64 0, .int .i64 0, .int .i64 0, .int .i64 0, .int .i64 0, .int .i64 0, .int .i64 0], .agg #[.int .i64 0, .int .i64 0, .int .i64 0, .int .i64 0, .int .i64 0, .int .i64 0, .int .i64 0]] (World.laidAll_os _ _ _) (by kernel_rfl) (by kernel_rfl) (by kernel_rfl)
      (OpenSpec.preRow_of_cond 8 hx (by kernel_rfl) (fun k hk => by cases hk) (by kernel_rfl) (laid_met os))) ?_
  intro W base args ds gs before hval0 hW _ _ _ hL hsh _
  have hval : ∀ (j : Nat) t v, Tryz.f8.params[j]? = some t → args[j]? = some v → Value.okWide Tryz.prog W .any base t v := hval0
  have hW' := hW
  obtain ⟨p, q, hA, hV, rfl, hfz, hnd⟩ := hW
  obtain ⟨rfl, rfl⟩ := trodVars_none hV
  have hA0 : DataW.TrodAll enc Tryz.prog W 0 (fun _ => true) true Tryz.f8.params.toList args.toList ds p := hA
  rw [Tryz.params8] at hA0 hval
  obtain ⟨v0, vs0, d0, ds0, p0, q0, hargs, rfl, rfl, h0, r0⟩ := trodAll_cons hA0
  obtain ⟨v1, vs1, d1, ds1, p1, q1, rfl, rfl, rfl, h1, r1⟩ := trodAll_cons r0
  obtain ⟨v2, vs2, d2, ds2, p2, q2, rfl, rfl, rfl, h2, r2⟩ := trodAll_cons r1
  obtain ⟨rfl, rfl, rfl⟩ := trodAll_nil r2
  obtain rfl : args = #[v0, v1, v2] := by cases args; simp_all
  obtain ⟨sx, ss, rfl, sr, sz⟩ := open_store (hval 0 28 v0 rfl rfl) h0
  obtain ⟨t0, rfl⟩ := open_tree (hval 1 32 v1 rfl rfl) h1
  obtain ⟨t1, rfl⟩ := open_tree (hval 2 32 v2 rfl rfl) h2
  refine (walk W sx ss t0 t1 sr sz (maxAt_of hsh) (tenAt_of hL.tail.tail) (errAt_of hL.tail.tail.tail.tail.tail)).mono fun e W' ⟨he, bel⟩ => ?_
  subst he
  exact ⟨_, rfl, law_post (s := Rows.fnExactBlobShareSpec) rfl (by kernel_rfl) (params_ok (by kernel_rfl)) hW' rfl rfl rfl bel⟩

theorem said : Rows.FnExactBlobShareSaid :=
  OpenClaim.holds_of_cond 8 Tryz.f8 rfl rfl rfl rfl rfl rfl rfl ⟨rfl, rfl, rfl, rfl, rfl⟩ rfl rfl rfl rfl rfl (by kernel_rfl) Tryz.func8 (by kernel_rfl)
    (of_decide_eq_true (by kernel_rfl)) (by unfold Func.isWrapper; first | (rw [if_pos (by decide +kernel)]; kernel_rfl) | (rw [if_neg (by decide +kernel)]; exact ⟨rfl, rfl⟩))
    (fun os started H enc _ F => by rw [OpenClaim.pre_eq_preRow]; exact lifted os started H enc F)

theorem plain (f : FuncId) (fn : Func) (hf : Tryz.pinned.checked.prog.funcNamed "loop.example/poolfiles/laws.FnExactBlobShare" = some f) (hfn : Tryz.pinned.checked.prog.funcs[f]? = some fn) :
    true = Tryz.pinned.checked.prog.looks [] ∧ ∀ (j : Nat) t, fn.params[j]? = some t → Tryz.pinned.checked.prog.wantsStandIn t = false := by
  obtain rfl : f = 8 := Option.some.inj ((show Tryz.prog.funcNamed "loop.example/poolfiles/laws.FnExactBlobShare" = some 8 by kernel_rfl).symm.trans hf) |>.symm
  obtain rfl : fn = Tryz.f8 := (Option.some.inj (Tryz.func8.symm.trans hfn)).symm
  refine ⟨by kernel_rfl, fun j t ht => ?_⟩
  have hall : (Tryz.f8.params.toList.all fun t => !(Tryz.prog.wantsStandIn t)) = true := by kernel_rfl
  have := List.all_eq_true.1 hall t (Array.mem_toList_iff.2 (Array.mem_of_getElem? ht))
  show Tryz.prog.wantsStandIn t = false
  simpa using this

theorem proved : Rows.FnExactBlobShareCardSaid :=
  Claim7.holds_tied_plain_at .later [] _ _ _ _ said (fun _ h => by cases h) (by kernel_rfl) (fun _ h => by cases h) fnExactBlobShare_row_tie rfl ⟨rfl, rfl⟩ (by kernel_rfl) rfl plain (by kernel_rfl)

end Go.Proofs.YtafadedacbjioaaGreatDoor.lawExactBlobShare
