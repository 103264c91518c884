/- BlobShare: both texts' walks. -/
import Derived.Test.YtafadedacbjioaaGreatDoorMC
import Derived.Deep.CutRange
import Derived.Deep.RegionHeld3
namespace Go.Proofs.YtafadedacbjioaaGreatDoor
open Go.RowKit Go.Sort
set_option maxRecDepth 100000
set_option linter.unusedVariables false
set_option linter.unusedSimpArgs false

def sameB (p q : Pt) : Bool := p.at_ == q.at_ && (p.birth == q.birth && (p.size == q.size && (p.sum == q.sum && p.level == q.level)))
def Differ (p q : Pt) : Prop := (p.at_ == q.at_) = false ∨ ((p.at_ == q.at_) = true ∧ (p.birth == q.birth) = false) ∨ ((p.at_ == q.at_) = true ∧ (p.birth == q.birth) = true ∧ (p.size == q.size) = false) ∨ ((p.at_ == q.at_) = true ∧ (p.birth == q.birth) = true ∧ (p.size == q.size) = true ∧ (p.sum == q.sum) = false) ∨ ((p.at_ == q.at_) = true ∧ (p.birth == q.birth) = true ∧ (p.size == q.size) = true ∧ (p.sum == q.sum) = true ∧ (p.level == q.level) = false)
theorem same_cases (p q : Pt) : (sameB p q = true ∧ p = q) ∨ Differ p q := by
  obtain ⟨a, b, c, d, e⟩ := p
  obtain ⟨a', b', c', d', e'⟩ := q
  unfold sameB Differ
  dsimp only
  cases h1 : (a == a')
  · exact .inr (.inl rfl)
  cases h2 : (b == b')
  · exact .inr (.inr (.inl ⟨rfl, rfl⟩))
  cases h3 : (c == c')
  · exact .inr (.inr (.inr (.inl ⟨rfl, rfl, rfl⟩)))
  cases h4 : (d == d')
  · exact .inr (.inr (.inr (.inr (.inl ⟨rfl, rfl, rfl, rfl⟩))))
  cases h5 : (e == e')
  · exact .inr (.inr (.inr (.inr (.inr ⟨rfl, rfl, rfl, rfl, rfl⟩))))
  · refine .inl ⟨rfl, ?_⟩
    rw [eq_of_beq h1, eq_of_beq h2, eq_of_beq h3, eq_of_beq h4, eq_of_beq h5]
theorem ne_same {p q : Pt} (h : Differ p q) : sameB p q = false := by
  unfold sameB
  rcases h with e1 | ⟨e1, e2⟩ | ⟨e1, e2, e3⟩ | ⟨e1, e2, e3, e4⟩ | ⟨e1, e2, e3, e4, e5⟩
  · rw [e1]; rfl
  · rw [e1, e2]; rfl
  · rw [e1, e2, e3]; rfl
  · rw [e1, e2, e3, e4]; rfl
  · rw [e1, e2, e3, e4, e5]; rfl
def shareK (l m : List Pt) : Nat → Nat
  | 0 => 0
  | k + 1 => shareK l m k + (match l[k]?, m[k]? with | some p, some q => if (sameB p q && !holeB p) = true then 1 else 0 | _, _ => 0)
theorem shareK_step {l m : List Pt} {k : Nat} {p q : Pt} (hp : l[k]? = some p) (hq : m[k]? = some q) : shareK l m (k + 1) = shareK l m k + (if (sameB p q && !holeB p) = true then 1 else 0) := by
  rw [shareK, hp, hq]
theorem shareK_le (l m : List Pt) : ∀ k, shareK l m k ≤ k
  | 0 => Nat.le_refl _
  | k + 1 => by
    have := shareK_le l m k
    rw [shareK]
    split
    · split <;> omega
    · omega
def ShG (s : St) (tr0 tr1 : Tr) (n : Nat) (b : Bool) : Prop := ∃ l m b1 b2, TLG s tr0 l b1 ∧ TLG s tr1 m b2 ∧ n = (if (b1 && b2) = true then shareK l m (min l.length m.length) else 0) ∧ b = (b1 && b2)
theorem shG_one {s : St} {tr0 tr1 : Tr} {n n' : Nat} {b b' : Bool} (h : ShG s tr0 tr1 n b) (h' : ShG s tr0 tr1 n' b') : b = b' ∧ n = n' := by
  obtain ⟨l, m, b1, b2, h1, h2, rfl, rfl⟩ := h
  obtain ⟨l', m', b1', b2', h1', h2', rfl, rfl⟩ := h'
  obtain ⟨rfl, rfl⟩ := tlg_one h1 h1'
  obtain ⟨rfl, rfl⟩ := tlg_one h2 h2'
  exact ⟨rfl, rfl⟩
def ShP (w : World) (s : St) (tr0 tr1 : Tr) (e : Ending) (w' : World) : Prop := ∃ (n : Nat) (b : Bool), e = .returned (.tuple #[.int .i64 n, .bool b]) ∧ ShG s tr0 tr1 n b ∧ Below w.heap.size w w'
set_option maxHeartbeats 8000000 in
theorem blobShare_any (w : World) (x : SA) (s : St) (tr0 tr1 : Tr) (h : SRd w x s) (mG : x.nG ≤ 1048576) (mD : x.nD ≤ 1048576) (hz : ∀ r ∈ s.rows, r.size ≤ 9223372036854775807) (hM : MaxAt w) (hT : TenAt w) (hE : ErrAt w) :
    Calls Tryz.prog 32 #[x.v s.txg s.keep s.same, tr0.v, tr1.v] w (ShP w s tr0 tr1) := by
  have HX := Lib.hid h
  have HTL := Lib.hid (fun W (hB : Below w.heap.size w W) tr => treeLeaves_any W x s tr (HX.out.below hB) mG mD hz (hM.below hB) (hT.below hB) (hE.below hB))
  have HG := Lib.hid (fun l m b1 b2 (h1 : TLG s tr0 l b1) (h2 : TLG s tr1 m b2) => (show ShG s tr0 tr1 (if (b1 && b2) = true then shareK l m (min l.length m.length) else 0) (b1 && b2) from ⟨l, m, b1, b2, h1, h2, rfl, rfl⟩))
  have HLN := Lib.hid (fun tr l b => @tlg_len s tr l b)
  clear h HX hM hT hE hz
  have HT0 := Lib.hid (fun W hB => HTL.out W hB tr0)
  have HT1 := Lib.hid (fun W hB => HTL.out W hB tr1)
  replace HLN := Lib.hid (And.intro (HLN.out tr0) (HLN.out tr1))
  unfold ShP
  unfold TLP at HT0 HT1
  clear HTL
  generalize ShG s tr0 tr1 = P at *
  generalize TLG s tr0 = P0 at *
  generalize TLG s tr1 = P1 at *
  obtain ⟨⟨ra0, rb0, rs0, ru0, rl0⟩, dep0, many0⟩ := tr0
  obtain ⟨⟨ra1, rb1, rs1, ru1, rl1⟩, dep1, many1⟩ := tr1
  obtain ⟨R, nR, cR, A, nA, cA, B, nB, cB, G, nG, cG, D, nD, cD⟩ := x
  obtain ⟨rows, refs, last, txg, gone, keep, dead, same⟩ := s
  unfold SA.v Tr.v at *
  dsimp only at *
  have BB0 := Lib.hid (((box_new w #[.slice R nR cR, .slice A nA cA, .slice B nB cB, .int .i64 txg, .slice G nG cG, .int .i64 keep, .slice D nD cD, .bool same] 38).alloc (.cells #[.int .i64 ra0, .int .i64 rb0, .int .i64 rs0, .int .i64 ru0, .int .i64 rl0, .int .i64 dep0, .int .i64 many0] 42)).alloc (.cells #[.int .i64 ra1, .int .i64 rb1, .int .i64 rs1, .int .i64 ru1, .int .i64 rl1, .int .i64 dep1, .int .i64 many1] 42))
  have BB1 := (box_new (w.alloc (.cells #[.slice R nR cR, .slice A nA cA, .slice B nB cB, .int .i64 txg, .slice G nG cG, .int .i64 keep, .slice D nD cD, .bool same] 38)) #[.int .i64 ra0, .int .i64 rb0, .int .i64 rs0, .int .i64 ru0, .int .i64 rl0, .int .i64 dep0, .int .i64 many0] 42).alloc (.cells #[.int .i64 ra1, .int .i64 rb1, .int .i64 rs1, .int .i64 ru1, .int .i64 rl1, .int .i64 dep1, .int .i64 many1] 42)
  simp only [World.size_alloc] at BB1
  replace BB1 := Lib.hid BB1
  have BB2 := box_new ((w.alloc (.cells #[.slice R nR cR, .slice A nA cA, .slice B nB cB, .int .i64 txg, .slice G nG cG, .int .i64 keep, .slice D nD cD, .bool same] 38)).alloc (.cells #[.int .i64 ra0, .int .i64 rb0, .int .i64 rs0, .int .i64 ru0, .int .i64 rl0, .int .i64 dep0, .int .i64 many0] 42)) #[.int .i64 ra1, .int .i64 rb1, .int .i64 rs1, .int .i64 ru1, .int .i64 rl1, .int .i64 dep1, .int .i64 many1] 42
  simp only [World.size_alloc] at BB2
  replace BB2 := Lib.hid BB2
  have HBa := Lib.hid (below_alloc (below_alloc (below_alloc (Below.refl w.heap.size w) (.cells #[.slice R nR cR, .slice A nA cA, .slice B nB cB, .int .i64 txg, .slice G nG cG, .int .i64 keep, .slice D nD cD, .bool same] 38)) (.cells #[.int .i64 ra0, .int .i64 rb0, .int .i64 rs0, .int .i64 ru0, .int .i64 rl0, .int .i64 dep0, .int .i64 many0] 42)) (.cells #[.int .i64 ra1, .int .i64 rb1, .int .i64 rs1, .int .i64 ru1, .int .i64 rl1, .int .i64 dep1, .int .i64 many1] 42))
  go_enter Tryz.func32, Tryz.ntmps32
  go_wp2_with fail
  refine Calls.mono (HT0.out _ HBa.out) ?_
  rintro e w2 ⟨v1, l, b1, rfl, hG1, hO1, hB⟩
  have HG1 := Lib.hid hG1
  obtain ⟨A1, c1, rfl, q1, _, _, hr1⟩ := hO1.form
  have HR1 := Lib.hid hr1
  have HB2 := Lib.hid (below_below HBa.out hB)
  have BX0 := Lib.hid (BB0.out.below hB)
  have BX2 := Lib.hid (BB2.out.below hB)
  have bx0 := BX0.out.cell
  have bl0 := BX0.out.lt
  have bx2 := BX2.out.cell
  have bl2 := BX2.out.lt
  clear hG1 hO1 hr1 hB BB0 BB1 BB2 HBa HT0
  go_wp2_with fail
  refine Calls.mono (HT1.out _ HB2.out) ?_
  rintro e w3 ⟨v2, m, b2, rfl, hG2, hO2, hB⟩
  have HG2 := Lib.hid hG2
  obtain ⟨A2, c2, rfl, q2, _, _, hr2⟩ := hO2.form
  have HR2 := Lib.hid hr2
  have HRL := Lib.hid (HR1.out.below hB)
  have HB3 := Lib.hid (below_below HB2.out hB)
  have hn1 := HLN.out.1 l b1 HG1.out
  have hn2 := HLN.out.2 m b2 HG2.out
  have HP := Lib.hid (HG.out l m b1 b2 HG1.out HG2.out)
  clear hG2 hO2 hr2 hB bx0 bl0 bx2 bl2 BX0 BX2 HR1 HT1 HG HG1 HG2 HLN
  cases b1
  · rw [Bool.false_and, if_neg (by decide)] at HP
    clear HR2 HRL q1 q2
    generalize l.length = n1 at *
    generalize m.length = n2 at *
    go_wp2_with fail
    go_ret2
    exact ⟨0, false, rfl, HP.out, HB3.out⟩
  cases b2
  · rw [Bool.and_false, if_neg (by decide)] at HP
    clear HR2 HRL q1 q2
    generalize l.length = n1 at *
    generalize m.length = n2 at *
    go_wp2_with fail
    go_ret2
    exact ⟨0, false, rfl, HP.out, HB3.out⟩
  rw [Bool.true_and, if_pos rfl] at HP
  obtain ⟨mn, hmn⟩ : ∃ mn, mn = min l.length m.length := ⟨_, rfl⟩
  have HMN := Lib.hid hmn
  rw [← hmn] at HP
  have hmi : min (l.length : Int) (m.length : Int) = (mn : Int) := by omega
  clear hmn
  go_wp2_with fail
  --S1
  go_loopw [12, 37] (fun n y wr => ∃ k : Nat, k ≤ mn ∧ y = .int .i64 k ∧ n = .int .i64 (shareK l m k : Nat) ∧ Hid (Below w3.heap.size w3 wr)) (fun n y _ => mn - (intOf y).toNat)
  case atStart => exact ⟨0, Nat.zero_le _, rfl, rfl, Lib.hid (Below.refl _ _)⟩
  case round =>
    obtain ⟨k, hk, rfl, rfl, HBr⟩ := hrel
    have HBw := Lib.hid (below_below HB3.out HBr.out)
    have hsk := shareK_le l m k
    by_cases hlt : k < mn
    · have hkl : k < l.length := by have := HMN.out; omega
      have hkm : k < m.length := by have := HMN.out; omega
      obtain ⟨b8, o8, p, rfl, hb8, he, p0, p1, p2, p3, p4⟩ := (HRL.out.below HBr.out).ptr hkl
      obtain ⟨b9, o9, q, rfl, hb9, he', r0, r1, r2, r3, r4⟩ := (HR2.out.below HBr.out).ptr hkm
      have k2 : IntKind.i64.wrap ((k : Int) + 1) = (k : Int) + 1 := IntWalk.i64_in _ (by omega)
      have k3 : IntKind.i64.wrap ((shareK l m k : Nat) + 1 : Int) = ((shareK l m k : Nat) : Int) + 1 := IntWalk.i64_in _ (by omega)
      have HPH := Lib.hid (fun W => ptrHole_any p W)
      have HSK := Lib.hid (shareK_step he he')
      have HX9 := Lib.hid (show k < mn from hlt)
      clear he he' HR2 HRL HP
      generalize hs1 : shareK l m (k + 1) = sk1 at *
      have HS1 := Lib.hid hs1
      clear hs1
      generalize shareK l m k = sk at *
      rcases same_cases p q with ⟨hsb, rfl⟩ | hne
      · cases hh : holeB p
        · rw [hsb, hh] at HSK
          rw [hh] at HPH
          obtain ⟨pa, pb, ps, pu, pl⟩ := p
          unfold Pt.v at HPH
          dsimp only at *
          clear hsb hh
          go_wp2_with fail
          refine wp_quiet_b (by kernel_rfl) (by kernel_rfl) (fun hgrow => ?_)
          repeat (go_big_quiet_step ((go_at_call 59; exact quiet_b (HPH.out _))))
          refine wpQuiet_nil ?_
          intro w6 hww6
          replace hww6 := below_of_regrown hww6
          clear hgrow
          have HB6 := Lib.hid (below_below HBr.out hww6)
          clear hww6
          go_wp2_with fail
          refine ⟨⟨k + 1, by have := HX9.out; omega, by go_num, by (rw [HS1.out, HSK.out]; first | rfl | simp), HB6⟩, by simp [intOf]; have := HX9.out; omega⟩
        · rw [hsb, hh] at HSK
          rw [hh] at HPH
          obtain ⟨pa, pb, ps, pu, pl⟩ := p
          unfold Pt.v at HPH
          dsimp only at *
          clear hsb hh
          go_wp2_with fail
          refine wp_quiet_b (by kernel_rfl) (by kernel_rfl) (fun hgrow => ?_)
          repeat (go_big_quiet_step ((go_at_call 59; exact quiet_b (HPH.out _))))
          refine wpQuiet_nil ?_
          intro w6 hww6
          replace hww6 := below_of_regrown hww6
          clear hgrow
          have HB6 := Lib.hid (below_below HBr.out hww6)
          clear hww6
          go_wp2_with fail
          refine ⟨⟨k + 1, by have := HX9.out; omega, by go_num, by (rw [HS1.out, HSK.out]; first | rfl | simp), HB6⟩, by simp [intOf]; have := HX9.out; omega⟩
      · rw [ne_same hne, Bool.false_and] at HSK
        have HSK0 := HSK.out
        rw [if_neg (by decide), Nat.add_zero] at HSK0
        subst HSK0
        obtain ⟨pa, pb, ps, pu, pl⟩ := p
        obtain ⟨qa, qb, qs, qu, ql⟩ := q
        dsimp only at *
        clear HSK HPH k3
        rcases hne with e1 | ⟨e1, e2⟩ | ⟨e1, e2, e3⟩ | ⟨e1, e2, e3, e4⟩ | ⟨e1, e2, e3, e4, e5⟩
        all_goals
          go_wp2_with fail
          refine wp_quiet_b (by kernel_rfl) (by kernel_rfl) (fun hgrow => ?_)
          repeat (go_big_quiet_step (fail))
          refine wpQuiet_nil ?_
          intro w6 hww6
          replace hww6 := below_of_regrown hww6
          clear hgrow
          have HB6 := Lib.hid (below_below HBr.out hww6)
          clear hww6
          go_wp2_with fail
          exact ⟨⟨k + 1, by have := HX9.out; omega, by go_num, by rw [HS1.out], HB6⟩, by simp [intOf]; have := HX9.out; omega⟩

    · obtain rfl : k = mn := by omega
      clear HR2 HRL q1 q2
      generalize l.length = n1 at *
      generalize m.length = n2 at *
      go_wp2_with fail
      go_ret2
      exact ⟨_, true, rfl, HP.out, HBw.out⟩
set_option maxHeartbeats 8000000 in
theorem specBlobShare_any (w : World) (x : SA) (s : St) (tr0 tr1 : Tr) (h : SRd w x s) (mG : x.nG ≤ 1048576) (mD : x.nD ≤ 1048576) (hz : ∀ r ∈ s.rows, r.size ≤ 9223372036854775807) :
    Calls Tryz.prog 31 #[x.v s.txg s.keep s.same, tr0.v, tr1.v] w (ShP w s tr0 tr1) := by
  have HX := Lib.hid h
  have HTL := Lib.hid (fun W (hB : Below w.heap.size w W) tr => specTreeLeaves_any W x s tr (HX.out.below hB) mG mD hz)
  have HG := Lib.hid (fun l m b1 b2 (h1 : TLG s tr0 l b1) (h2 : TLG s tr1 m b2) => (show ShG s tr0 tr1 (if (b1 && b2) = true then shareK l m (min l.length m.length) else 0) (b1 && b2) from ⟨l, m, b1, b2, h1, h2, rfl, rfl⟩))
  have HLN := Lib.hid (fun tr l b => @tlg_len s tr l b)
  clear h HX hz
  have HT0 := Lib.hid (fun W hB => HTL.out W hB tr0)
  have HT1 := Lib.hid (fun W hB => HTL.out W hB tr1)
  replace HLN := Lib.hid (And.intro (HLN.out tr0) (HLN.out tr1))
  unfold ShP
  unfold TLP at HT0 HT1
  clear HTL
  generalize ShG s tr0 tr1 = P at *
  generalize TLG s tr0 = P0 at *
  generalize TLG s tr1 = P1 at *
  obtain ⟨⟨ra0, rb0, rs0, ru0, rl0⟩, dep0, many0⟩ := tr0
  obtain ⟨⟨ra1, rb1, rs1, ru1, rl1⟩, dep1, many1⟩ := tr1
  obtain ⟨R, nR, cR, A, nA, cA, B, nB, cB, G, nG, cG, D, nD, cD⟩ := x
  obtain ⟨rows, refs, last, txg, gone, keep, dead, same⟩ := s
  unfold SA.v Tr.v at *
  dsimp only at *
  have BB0 := Lib.hid (((box_new w #[.slice R nR cR, .slice A nA cA, .slice B nB cB, .int .i64 txg, .slice G nG cG, .int .i64 keep, .slice D nD cD, .bool same] 38).alloc (.cells #[.int .i64 ra0, .int .i64 rb0, .int .i64 rs0, .int .i64 ru0, .int .i64 rl0, .int .i64 dep0, .int .i64 many0] 42)).alloc (.cells #[.int .i64 ra1, .int .i64 rb1, .int .i64 rs1, .int .i64 ru1, .int .i64 rl1, .int .i64 dep1, .int .i64 many1] 42))
  have BB1 := (box_new (w.alloc (.cells #[.slice R nR cR, .slice A nA cA, .slice B nB cB, .int .i64 txg, .slice G nG cG, .int .i64 keep, .slice D nD cD, .bool same] 38)) #[.int .i64 ra0, .int .i64 rb0, .int .i64 rs0, .int .i64 ru0, .int .i64 rl0, .int .i64 dep0, .int .i64 many0] 42).alloc (.cells #[.int .i64 ra1, .int .i64 rb1, .int .i64 rs1, .int .i64 ru1, .int .i64 rl1, .int .i64 dep1, .int .i64 many1] 42)
  simp only [World.size_alloc] at BB1
  replace BB1 := Lib.hid BB1
  have BB2 := box_new ((w.alloc (.cells #[.slice R nR cR, .slice A nA cA, .slice B nB cB, .int .i64 txg, .slice G nG cG, .int .i64 keep, .slice D nD cD, .bool same] 38)).alloc (.cells #[.int .i64 ra0, .int .i64 rb0, .int .i64 rs0, .int .i64 ru0, .int .i64 rl0, .int .i64 dep0, .int .i64 many0] 42)) #[.int .i64 ra1, .int .i64 rb1, .int .i64 rs1, .int .i64 ru1, .int .i64 rl1, .int .i64 dep1, .int .i64 many1] 42
  simp only [World.size_alloc] at BB2
  replace BB2 := Lib.hid BB2
  have HBa := Lib.hid (below_alloc (below_alloc (below_alloc (Below.refl w.heap.size w) (.cells #[.slice R nR cR, .slice A nA cA, .slice B nB cB, .int .i64 txg, .slice G nG cG, .int .i64 keep, .slice D nD cD, .bool same] 38)) (.cells #[.int .i64 ra0, .int .i64 rb0, .int .i64 rs0, .int .i64 ru0, .int .i64 rl0, .int .i64 dep0, .int .i64 many0] 42)) (.cells #[.int .i64 ra1, .int .i64 rb1, .int .i64 rs1, .int .i64 ru1, .int .i64 rl1, .int .i64 dep1, .int .i64 many1] 42))
  go_enter Tryz.func31, Tryz.ntmps31
  go_wp2_with fail
  refine Calls.mono (HT0.out _ HBa.out) ?_
  rintro e w2 ⟨v1, l, b1, rfl, hG1, hO1, hB⟩
  have HG1 := Lib.hid hG1
  obtain ⟨A1, c1, rfl, q1, _, _, hr1⟩ := hO1.form
  have HR1 := Lib.hid hr1
  have HB2 := Lib.hid (below_below HBa.out hB)
  have BX0 := Lib.hid (BB0.out.below hB)
  have BX2 := Lib.hid (BB2.out.below hB)
  have bx0 := BX0.out.cell
  have bl0 := BX0.out.lt
  have bx2 := BX2.out.cell
  have bl2 := BX2.out.lt
  clear hG1 hO1 hr1 hB BB0 BB1 BB2 HBa HT0
  go_wp2_with fail
  refine Calls.mono (HT1.out _ HB2.out) ?_
  rintro e w3 ⟨v2, m, b2, rfl, hG2, hO2, hB⟩
  have HG2 := Lib.hid hG2
  obtain ⟨A2, c2, rfl, q2, _, _, hr2⟩ := hO2.form
  have HR2 := Lib.hid hr2
  have HRL := Lib.hid (HR1.out.below hB)
  have HB3 := Lib.hid (below_below HB2.out hB)
  have hn1 := HLN.out.1 l b1 HG1.out
  have hn2 := HLN.out.2 m b2 HG2.out
  have HP := Lib.hid (HG.out l m b1 b2 HG1.out HG2.out)
  clear hG2 hO2 hr2 hB bx0 bl0 bx2 bl2 BX0 BX2 HR1 HT1 HG HG1 HG2 HLN
  cases b1
  · rw [Bool.false_and, if_neg (by decide)] at HP
    clear HR2 HRL q1 q2
    generalize l.length = n1 at *
    generalize m.length = n2 at *
    go_wp2_with fail
    go_ret2
    exact ⟨0, false, rfl, HP.out, HB3.out⟩
  cases b2
  · rw [Bool.and_false, if_neg (by decide)] at HP
    clear HR2 HRL q1 q2
    generalize l.length = n1 at *
    generalize m.length = n2 at *
    go_wp2_with fail
    go_ret2
    exact ⟨0, false, rfl, HP.out, HB3.out⟩
  rw [Bool.true_and, if_pos rfl] at HP
  go_wp2_with fail
  --S1
  go_loopw [12, 13] (fun n y wr => ∃ k : Nat, k ≤ min l.length m.length ∧ y = .int .i64 k ∧ n = .int .i64 (shareK l m k : Nat) ∧ Hid (Below w3.heap.size w3 wr)) (fun n y _ => min l.length m.length - (intOf y).toNat)
  case atStart => exact ⟨0, Nat.zero_le _, rfl, rfl, Lib.hid (Below.refl _ _)⟩
  case round =>
    obtain ⟨k, hk, rfl, rfl, HBr⟩ := hrel
    have HBw := Lib.hid (below_below HB3.out HBr.out)
    have hsk := shareK_le l m k
    by_cases hlt : k < min l.length m.length
    · have hkl : k < l.length := by omega
      have hkm : k < m.length := by omega
      obtain ⟨b8, o8, p, rfl, hb8, he, p0, p1, p2, p3, p4⟩ := (HRL.out.below HBr.out).ptr hkl
      obtain ⟨b9, o9, q, rfl, hb9, he', r0, r1, r2, r3, r4⟩ := (HR2.out.below HBr.out).ptr hkm
      have k2 : IntKind.i64.wrap ((k : Int) + 1) = (k : Int) + 1 := IntWalk.i64_in _ (by omega)
      have k3 : IntKind.i64.wrap ((shareK l m k : Nat) + 1 : Int) = ((shareK l m k : Nat) : Int) + 1 := IntWalk.i64_in _ (by omega)
      have HPH := Lib.hid (fun W => specPtrHole_any p W)
      have HSK := Lib.hid (shareK_step he he')
      have HX9 := Lib.hid (show k < min l.length m.length from hlt)
      clear he he' HR2 HRL HP
      generalize hs1 : shareK l m (k + 1) = sk1 at *
      have HS1 := Lib.hid hs1
      clear hs1
      generalize shareK l m k = sk at *
      rcases same_cases p q with ⟨hsb, rfl⟩ | hne
      · cases hh : holeB p
        · rw [hsb, hh] at HSK
          rw [hh] at HPH
          obtain ⟨pa, pb, ps, pu, pl⟩ := p
          unfold Pt.v at HPH
          dsimp only at *
          clear hsb hh
          go_wp2_with fail
          refine wp_quiet_b (by kernel_rfl) (by kernel_rfl) (fun hgrow => ?_)
          repeat (go_big_quiet_step ((go_at_call 58; exact quiet_b (HPH.out _))))
          refine wpQuiet_nil ?_
          intro w6 hww6
          replace hww6 := below_of_regrown hww6
          clear hgrow
          have HB6 := Lib.hid (below_below HBr.out hww6)
          clear hww6
          go_wp2_with fail
          refine ⟨⟨k + 1, by have := HX9.out; omega, by go_num, by (rw [HS1.out, HSK.out]; first | rfl | simp), HB6⟩, by simp [intOf]; have := HX9.out; omega⟩
        · rw [hsb, hh] at HSK
          rw [hh] at HPH
          obtain ⟨pa, pb, ps, pu, pl⟩ := p
          unfold Pt.v at HPH
          dsimp only at *
          clear hsb hh
          go_wp2_with fail
          refine wp_quiet_b (by kernel_rfl) (by kernel_rfl) (fun hgrow => ?_)
          repeat (go_big_quiet_step ((go_at_call 58; exact quiet_b (HPH.out _))))
          refine wpQuiet_nil ?_
          intro w6 hww6
          replace hww6 := below_of_regrown hww6
          clear hgrow
          have HB6 := Lib.hid (below_below HBr.out hww6)
          clear hww6
          go_wp2_with fail
          refine ⟨⟨k + 1, by have := HX9.out; omega, by go_num, by (rw [HS1.out, HSK.out]; first | rfl | simp), HB6⟩, by simp [intOf]; have := HX9.out; omega⟩
      · rw [ne_same hne, Bool.false_and] at HSK
        have HSK0 := HSK.out
        rw [if_neg (by decide), Nat.add_zero] at HSK0
        subst HSK0
        obtain ⟨pa, pb, ps, pu, pl⟩ := p
        obtain ⟨qa, qb, qs, qu, ql⟩ := q
        dsimp only at *
        clear HSK HPH k3
        rcases hne with e1 | ⟨e1, e2⟩ | ⟨e1, e2, e3⟩ | ⟨e1, e2, e3, e4⟩ | ⟨e1, e2, e3, e4, e5⟩
        all_goals
          go_wp2_with fail
          refine wp_quiet_b (by kernel_rfl) (by kernel_rfl) (fun hgrow => ?_)
          repeat (go_big_quiet_step (fail))
          refine wpQuiet_nil ?_
          intro w6 hww6
          replace hww6 := below_of_regrown hww6
          clear hgrow
          have HB6 := Lib.hid (below_below HBr.out hww6)
          clear hww6
          go_wp2_with fail
          exact ⟨⟨k + 1, by have := HX9.out; omega, by go_num, by rw [HS1.out], HB6⟩, by simp [intOf]; have := HX9.out; omega⟩

    · obtain rfl : k = min l.length m.length := by omega
      clear HR2 HRL q1 q2
      rcases Nat.lt_or_ge (min l.length m.length) l.length with g1 | g1
      · have g2 : ¬ min l.length m.length < m.length := by omega
        generalize shareK l m (min l.length m.length) = sk at *
        generalize min l.length m.length = mm at *
        generalize l.length = n1 at *
        generalize m.length = n2 at *
        go_wp2_with fail
        go_ret2
        exact ⟨_, true, rfl, HP.out, HBw.out⟩
      · generalize shareK l m (min l.length m.length) = sk at *
        generalize min l.length m.length = mm at *
        generalize l.length = n1 at *
        generalize m.length = n2 at *
        go_wp2_with fail
        go_ret2
        exact ⟨_, true, rfl, HP.out, HBw.out⟩

end Go.Proofs.YtafadedacbjioaaGreatDoor

/- TreeDiff: both texts' walks. -/
namespace Go.Proofs.YtafadedacbjioaaGreatDoor
open Go.RowKit Go.Sort
set_option maxRecDepth 100000
set_option linter.unusedVariables false
set_option linter.unusedSimpArgs false

def pAt (l : List Pt) (k : Nat) : Pt := l.getD k zeroP
theorem pAt_in {l : List Pt} {k : Nat} {p : Pt} (h : l[k]? = some p) : pAt l k = p := by unfold pAt; rw [List.getD_eq_getElem?_getD, h]; rfl
theorem pAt_out {l : List Pt} {k : Nat} (h : ¬ k < l.length) : pAt l k = zeroP := by unfold pAt; rw [List.getD_eq_getElem?_getD, List.getElem?_eq_none (by omega)]; rfl
theorem same_self (p : Pt) : sameB p p = true := by obtain ⟨a, b, c, d, e⟩ := p; simp [sameB]
def diffK (l m : List Pt) : Nat → List Int
  | 0 => []
  | k + 1 => if sameB (pAt l k) (pAt m k) = true then diffK l m k else diffK l m k ++ [(k : Int)]
theorem diffK_len (l m : List Pt) : ∀ k, (diffK l m k).length ≤ k
  | 0 => Nat.le_refl _
  | k + 1 => by
    have := diffK_len l m k
    rw [diffK]
    split
    · omega
    · rw [List.length_append]; simp; omega
theorem diffK_same {l m : List Pt} {k : Nat} (h : sameB (pAt l k) (pAt m k) = true) : diffK l m (k + 1) = diffK l m k := by rw [diffK, if_pos h]
theorem diffK_ne {l m : List Pt} {k : Nat} (h : sameB (pAt l k) (pAt m k) = false) : diffK l m k ++ [(k : Int)] = diffK l m (k + 1) := by rw [diffK, if_neg (by rw [h]; decide)]
theorem diffK_tail {l m : List Pt} {k : Nat} (h1 : l.length ≤ k) (h2 : m.length ≤ k) : ∀ j, diffK l m (k + j) = diffK l m k
  | 0 => rfl
  | j + 1 => by
    rw [← Nat.add_assoc, diffK_same (by rw [pAt_out (by omega), pAt_out (by omega)]; exact same_self _)]
    exact diffK_tail h1 h2 j
theorem diffK_all {l m : List Pt} (h1 : l.length ≤ 16) (h2 : m.length ≤ 16) : diffK l m 16 = diffK l m (max l.length m.length) := by
  have := diffK_tail (l := l) (m := m) (k := max l.length m.length) (by omega) (by omega) (16 - max l.length m.length)
  rwa [show max l.length m.length + (16 - max l.length m.length) = 16 by omega] at this
def DiffG (s : St) (tr0 tr1 : Tr) (d : List Int) (b : Bool) : Prop := ∃ l m b1 b2, TLG s tr0 l b1 ∧ TLG s tr1 m b2 ∧ d = (if (b1 && b2) = true then diffK l m 16 else []) ∧ b = (b1 && b2)
theorem diffG_one {s : St} {tr0 tr1 : Tr} {n n' : List Int} {b b' : Bool} (h : DiffG s tr0 tr1 n b) (h' : DiffG s tr0 tr1 n' b') : b = b' ∧ n = n' := by
  obtain ⟨l, m, b1, b2, h1, h2, rfl, rfl⟩ := h
  obtain ⟨l', m', b1', b2', h1', h2', rfl, rfl⟩ := h'
  obtain ⟨rfl, rfl⟩ := tlg_one h1 h1'
  obtain ⟨rfl, rfl⟩ := tlg_one h2 h2'
  exact ⟨rfl, rfl⟩
theorem diffG_len {s : St} {tr0 tr1 : Tr} {d : List Int} {b : Bool} (h : DiffG s tr0 tr1 d b) : d.length ≤ 16 := by
  obtain ⟨l, m, b1, b2, h1, h2, rfl, rfl⟩ := h
  split
  · exact diffK_len _ _ _
  · simp
def TDP (w : World) (s : St) (tr0 tr1 : Tr) (e : Ending) (w' : World) : Prop := ∃ (v : Value) (d : List Int) (b : Bool), e = .returned (.tuple #[v, .bool b]) ∧ DiffG s tr0 tr1 d b ∧ Own encN 1 3 w.heap.size w' v d ∧ Below w.heap.size w w'
theorem rd_oneNAt {k : Nat} (w : World) (n : Int) (h : k = w.heap.size) : RdT encN 1 (w.alloc (.cells #[.int .i64 n] 3)) (some ⟨k, 0, none⟩) [n] := h ▸ rd_oneNP w n
theorem own_emptyNAt {base k : Nat} {w : World} (h : k = w.heap.size) (hb : base ≤ w.heap.size) : Own encN 1 3 base (w.alloc (.cells #[] 3)) (.slice (some ⟨k, 0, none⟩) 0 0) ([] : List Int) := by
  subst h
  exact Own.empty hb
theorem kp_grown {ex : List Nat} {w W W' : World} {row : Option Nat} (h : Kp ex w W) (hg : W.grownBy W' row) (hr : ∀ b, row = some b → b ∈ ex ∨ w.heap.size ≤ b) : Kp ex w W' :=
  ⟨hg.os.trans h.os, hg.tape.trans h.tape, hg.output.trans h.output, Nat.le_trans h.size hg.size, fun k hk he => (hg.block k (Nat.lt_of_lt_of_le hk h.size) (fun e => by
    rcases hr k e.symm with h' | h'
    · exact he h'
    · omega)).trans (h.block k hk he)⟩
set_option maxHeartbeats 1000000 in
theorem placeOf_any (W : World) (A : Option Addr) (c k : Nat) (l : List Pt) (h : RdT encP 5 W A l) (hl : l.length ≤ 16) (hk : k ≤ 64) :
    Calls Tryz.prog 51 #[.slice A l.length c, .int .i64 k] W fun e w' => e = .returned (pAt l k).v ∧ Below W.heap.size W w' := by
  have HA := Lib.hid (below_alloc (Below.refl W.heap.size W) (.cells #[.int .i64 0, .int .i64 0, .int .i64 0, .int .i64 0, .int .i64 0] 40))
  by_cases hlt : k < l.length
  · obtain ⟨b8, o8, p, rfl, hb8, he, p0, p1, p2, p3, p4⟩ := h.ptr hlt
    rw [pAt_in he]
    obtain ⟨pa, pb, ps, pu, pl⟩ := p
    clear he h
    generalize l.length = n at *
    have hlt' : (k : Int) < (n : Int) := by omega
    dsimp only at *
    unfold Pt.v
    dsimp only
    go_enter Tryz.func51, Tryz.ntmps51
    go_wp2_with fail
    refine bodyPost_ret (v := .agg #[.int .i64 pa, .int .i64 pb, .int .i64 ps, .int .i64 pu, .int .i64 pl]) (by simp [results, Tryz.results51, go_sem]) rfl ⟨rfl, below_alloc (Below.refl _ _) _⟩
  · rw [pAt_out hlt]
    clear h
    generalize l.length = n at *
    have hlt' : ¬ (k : Int) < (n : Int) := by omega
    unfold Pt.v zeroP
    dsimp only
    go_enter Tryz.func51, Tryz.ntmps51
    go_wp2_with fail
    refine bodyPost_ret (v := .agg #[.int .i64 0, .int .i64 0, .int .i64 0, .int .i64 0, .int .i64 0]) (by simp [results, Tryz.results51, go_sem]) rfl ⟨rfl, ?_⟩
    (repeat (refine below_set ?_ (by dsimp only; omega) _))
    exact HA.out
set_option maxHeartbeats 8000000 in
theorem treeDiff_any (w : World) (x : SA) (s : St) (tr0 tr1 : Tr) (h : SRd w x s) (mG : x.nG ≤ 1048576) (mD : x.nD ≤ 1048576) (hz : ∀ r ∈ s.rows, r.size ≤ 9223372036854775807) (hM : MaxAt w) (hT : TenAt w) (hE : ErrAt w) :
    Calls Tryz.prog 23 #[x.v s.txg s.keep s.same, tr0.v, tr1.v] w (TDP w s tr0 tr1) := by
  have HX := Lib.hid h
  have HTL := Lib.hid (fun W (hB : Below w.heap.size w W) tr => treeLeaves_any W x s tr (HX.out.below hB) mG mD hz (hM.below hB) (hT.below hB) (hE.below hB))
  have HG := Lib.hid (fun l m b1 b2 (h1 : TLG s tr0 l b1) (h2 : TLG s tr1 m b2) => (show DiffG s tr0 tr1 (if (b1 && b2) = true then diffK l m 16 else []) (b1 && b2) from ⟨l, m, b1, b2, h1, h2, rfl, rfl⟩))
  have HLN := Lib.hid (fun tr l b => @tlg_len s tr l b)
  clear h HX hM hT hE hz
  have HT0 := Lib.hid (fun W hB => HTL.out W hB tr0)
  have HT1 := Lib.hid (fun W hB => HTL.out W hB tr1)
  replace HLN := Lib.hid (And.intro (HLN.out tr0) (HLN.out tr1))
  unfold TDP
  unfold TLP at HT0 HT1
  clear HTL
  generalize DiffG s tr0 tr1 = P at *
  generalize TLG s tr0 = P0 at *
  generalize TLG s tr1 = P1 at *
  obtain ⟨⟨ra0, rb0, rs0, ru0, rl0⟩, dep0, many0⟩ := tr0
  obtain ⟨⟨ra1, rb1, rs1, ru1, rl1⟩, dep1, many1⟩ := tr1
  obtain ⟨R, nR, cR, A, nA, cA, B, nB, cB, G, nG, cG, D, nD, cD⟩ := x
  obtain ⟨rows, refs, last, txg, gone, keep, dead, same⟩ := s
  unfold SA.v Tr.v at *
  dsimp only at *
  have BB0 := Lib.hid (((box_new w #[.slice R nR cR, .slice A nA cA, .slice B nB cB, .int .i64 txg, .slice G nG cG, .int .i64 keep, .slice D nD cD, .bool same] 38).alloc (.cells #[.int .i64 ra0, .int .i64 rb0, .int .i64 rs0, .int .i64 ru0, .int .i64 rl0, .int .i64 dep0, .int .i64 many0] 42)).alloc (.cells #[.int .i64 ra1, .int .i64 rb1, .int .i64 rs1, .int .i64 ru1, .int .i64 rl1, .int .i64 dep1, .int .i64 many1] 42))
  have BB1 := (box_new (w.alloc (.cells #[.slice R nR cR, .slice A nA cA, .slice B nB cB, .int .i64 txg, .slice G nG cG, .int .i64 keep, .slice D nD cD, .bool same] 38)) #[.int .i64 ra0, .int .i64 rb0, .int .i64 rs0, .int .i64 ru0, .int .i64 rl0, .int .i64 dep0, .int .i64 many0] 42).alloc (.cells #[.int .i64 ra1, .int .i64 rb1, .int .i64 rs1, .int .i64 ru1, .int .i64 rl1, .int .i64 dep1, .int .i64 many1] 42)
  simp only [World.size_alloc] at BB1
  replace BB1 := Lib.hid BB1
  have BB2 := box_new ((w.alloc (.cells #[.slice R nR cR, .slice A nA cA, .slice B nB cB, .int .i64 txg, .slice G nG cG, .int .i64 keep, .slice D nD cD, .bool same] 38)).alloc (.cells #[.int .i64 ra0, .int .i64 rb0, .int .i64 rs0, .int .i64 ru0, .int .i64 rl0, .int .i64 dep0, .int .i64 many0] 42)) #[.int .i64 ra1, .int .i64 rb1, .int .i64 rs1, .int .i64 ru1, .int .i64 rl1, .int .i64 dep1, .int .i64 many1] 42
  simp only [World.size_alloc] at BB2
  replace BB2 := Lib.hid BB2
  have HBa := Lib.hid (below_alloc (below_alloc (below_alloc (Below.refl w.heap.size w) (.cells #[.slice R nR cR, .slice A nA cA, .slice B nB cB, .int .i64 txg, .slice G nG cG, .int .i64 keep, .slice D nD cD, .bool same] 38)) (.cells #[.int .i64 ra0, .int .i64 rb0, .int .i64 rs0, .int .i64 ru0, .int .i64 rl0, .int .i64 dep0, .int .i64 many0] 42)) (.cells #[.int .i64 ra1, .int .i64 rb1, .int .i64 rs1, .int .i64 ru1, .int .i64 rl1, .int .i64 dep1, .int .i64 many1] 42))
  go_enter Tryz.func23, Tryz.ntmps23
  go_wp2_with fail
  refine Calls.mono (HT0.out _ HBa.out) ?_
  rintro e w2 ⟨v1, l, b1, rfl, hG1, hO1, hB⟩
  have HG1 := Lib.hid hG1
  obtain ⟨A1, c1, rfl, q1, _, _, hr1⟩ := hO1.form
  have HR1 := Lib.hid hr1
  have HB2 := Lib.hid (below_below HBa.out hB)
  have BX0 := Lib.hid (BB0.out.below hB)
  have BX2 := Lib.hid (BB2.out.below hB)
  have bx0 := BX0.out.cell
  have bl0 := BX0.out.lt
  have bx2 := BX2.out.cell
  have bl2 := BX2.out.lt
  clear hG1 hO1 hr1 hB BB0 BB1 BB2 HBa HT0
  go_wp2_with fail
  refine Calls.mono (HT1.out _ HB2.out) ?_
  rintro e w3 ⟨v2, m, b2, rfl, hG2, hO2, hB⟩
  have HG2 := Lib.hid hG2
  obtain ⟨A2, c2, rfl, q2, _, _, hr2⟩ := hO2.form
  have HR2 := Lib.hid hr2
  have HRL := Lib.hid (HR1.out.below hB)
  have HB3 := Lib.hid (below_below HB2.out hB)
  have hn1 := HLN.out.1 l b1 HG1.out
  have hn2 := HLN.out.2 m b2 HG2.out
  have HP := Lib.hid (HG.out l m b1 b2 HG1.out HG2.out)
  clear hG2 hO2 hr2 hB bx0 bl0 bx2 bl2 BX0 BX2 HR1 HT1 HG HG1 HG2 HLN
  cases b1
  · rw [Bool.false_and, if_neg (by decide)] at HP
    clear HR2 HRL q1 q2
    generalize l.length = n1 at *
    generalize m.length = n2 at *
    go_wp2_with fail
    go_ret2
    exact ⟨_, [], false, rfl, HP.out, Own.nil, HB3.out⟩
  cases b2
  · rw [Bool.and_false, if_neg (by decide)] at HP
    clear HR2 HRL q1 q2
    generalize l.length = n1 at *
    generalize m.length = n2 at *
    go_wp2_with fail
    go_ret2
    exact ⟨_, [], false, rfl, HP.out, Own.nil, HB3.out⟩
  rw [Bool.true_and, if_pos rfl, diffK_all hn1 hn2] at HP
  obtain ⟨mn, hmn⟩ : ∃ mn, mn = max l.length m.length := ⟨_, rfl⟩
  have HMN := Lib.hid hmn
  rw [← hmn] at HP
  have hmi : max (l.length : Int) (m.length : Int) = (mn : Int) := by omega
  have hm16 : mn ≤ 16 := by omega
  clear hmn
  go_wp2_with fail
  --S1
  go_loopw [12, 37] (fun n y wr => ∃ k : Nat, k ≤ mn ∧ y = .int .i64 k ∧ Hid (Own encN 1 3 w3.heap.size wr n (diffK l m k)) ∧ Hid (Below w3.heap.size w3 wr)) (fun n y _ => mn - (intOf y).toNat)
  case atStart => exact ⟨0, Nat.zero_le _, rfl, Lib.hid Own.nil, Lib.hid (Below.refl _ _)⟩
  case round =>
    obtain ⟨k, hk, rfl, HO, HBr⟩ := hrel
    have HBw := Lib.hid (below_below HB3.out HBr.out)
    have hsk := diffK_len l m k
    by_cases hlt : k < mn
    · have HPL := Lib.hid (fun W (hB : Below w3.heap.size w3 W) => placeOf_any W A1 c1 k l (HRL.out.below hB) hn1 (by omega))
      have HPM := Lib.hid (fun W (hB : Below w3.heap.size w3 W) => placeOf_any W A2 c2 k m (HR2.out.below hB) hn2 (by omega))
      have k2 : IntKind.i64.wrap ((k : Int) + 1) = (k : Int) + 1 := IntWalk.i64_in _ (by omega)
      have K1 := Lib.hid (And.intro (show ((diffK l m k).length + 1) * 8 ≤ 140737488355328 by omega) (show (diffK l m k).length + 1 ≤ maxLen by unfold maxLen; omega))
      have HD1 := Lib.hid (fun h => @diffK_same l m k h)
      have HD2 := Lib.hid (fun h => @diffK_ne l m k h)
      have HX9 := Lib.hid (And.intro hlt hm16)
      clear HR2 HRL HP hmi hsk
      generalize hs1 : diffK l m (k + 1) = dk1 at *
      have HS1 := Lib.hid hs1
      clear hs1
      generalize diffK l m k = dk at *
      generalize pAt l k = p at *
      generalize pAt m k = q at *
      rcases same_cases p q with ⟨hsb, rfl⟩ | hne
      · have hd := Lib.hid (HD1.out hsb)
        obtain ⟨pa, pb, ps, pu, pl⟩ := p
        unfold Pt.v at HPL HPM
        dsimp only at *
        clear hsb HD1 HD2
        go_wp2_with fail
        refine Calls.mono (HPL.out _ HBr.out) ?_
        rintro e w4 ⟨rfl, hB⟩
        have HB4 := Lib.hid (below_below HBr.out hB)
        have HO4 := Lib.hid (HO.out.below hB)
        clear hB
        go_wp2_with fail
        refine Calls.mono (HPM.out _ HB4.out) ?_
        rintro e w5 ⟨rfl, hB⟩
        have HB5 := Lib.hid (below_below HB4.out hB)
        have HO5 := Lib.hid (HO4.out.below hB)
        clear hB
        go_wp2_with fail
        refine ⟨⟨k + 1, by have := HX9.out; omega, by go_num, by rw [HS1.out, hd.out]; exact HO5, HB5⟩, by simp [intOf]; have := HX9.out; omega⟩
      · have hd := Lib.hid (HD2.out (ne_same hne))
        obtain ⟨pa, pb, ps, pu, pl⟩ := p
        obtain ⟨qa, qb, qs, qu, ql⟩ := q
        unfold Pt.v at HPL HPM
        dsimp only at *
        clear HD1 HD2
        rcases hne with e1 | ⟨e1, e2⟩ | ⟨e1, e2, e3⟩ | ⟨e1, e2, e3, e4⟩ | ⟨e1, e2, e3, e4, e5⟩
        all_goals
          go_wp2_with fail
          refine Calls.mono (HPL.out _ HBr.out) ?_
          rintro e w4 ⟨rfl, hB⟩
          have HB4 := Lib.hid (below_below HBr.out hB)
          have HO4 := Lib.hid (HO.out.below hB)
          clear hB
          go_wp2_with fail
          refine Calls.mono (HPM.out _ HB4.out) ?_
          rintro e w5 ⟨rfl, hB⟩
          have HB5 := Lib.hid (below_below HB4.out hB)
          have HO5 := Lib.hid (HO4.out.below hB)
          clear hB
          go_wp2_with (at_builtin; refine wpList_app (ys := ([(k : Int)] : List Int)) elN rfl _ _ rfl (by rfl) (own_allocN HO5.out _) (by rfl) rfl (rd_oneNP _ _) oneN K1.out.1 K1.out.2 (below_alloc HB5.out _).size ?_; intro v1 w6 ownv1 grv1 atv1)
          refine ⟨⟨k + 1, by have := HX9.out; omega, by go_num, by rw [HS1.out, ← hd.out]; exact Lib.hid ownv1, Lib.hid (below_grown (below_alloc HB5.out _) (own_allocN HO5.out _) grv1)⟩, by simp [intOf]; have := HX9.out; omega⟩
    · obtain rfl : k = mn := by omega
      clear HR2 HRL q1 q2
      generalize l.length = n1 at *
      generalize m.length = n2 at *
      go_wp2_with fail
      go_ret2
      exact ⟨_, _, true, rfl, HP.out, HO.out.more HB3.out.size, HBw.out⟩
set_option maxHeartbeats 8000000 in
theorem specTreeDiff_any (w : World) (x : SA) (s : St) (tr0 tr1 : Tr) (h : SRd w x s) (mG : x.nG ≤ 1048576) (mD : x.nD ≤ 1048576) (hz : ∀ r ∈ s.rows, r.size ≤ 9223372036854775807) :
    Calls Tryz.prog 22 #[x.v s.txg s.keep s.same, tr0.v, tr1.v] w (TDP w s tr0 tr1) := by
  have HX := Lib.hid h
  have HTL := Lib.hid (fun W (hB : Below w.heap.size w W) tr => specTreeLeaves_any W x s tr (HX.out.below hB) mG mD hz)
  have HG := Lib.hid (fun l m b1 b2 (h1 : TLG s tr0 l b1) (h2 : TLG s tr1 m b2) => (show DiffG s tr0 tr1 (if (b1 && b2) = true then diffK l m 16 else []) (b1 && b2) from ⟨l, m, b1, b2, h1, h2, rfl, rfl⟩))
  have HLN := Lib.hid (fun tr l b => @tlg_len s tr l b)
  clear h HX hz
  have HT0 := Lib.hid (fun W hB => HTL.out W hB tr0)
  have HT1 := Lib.hid (fun W hB => HTL.out W hB tr1)
  replace HLN := Lib.hid (And.intro (HLN.out tr0) (HLN.out tr1))
  unfold TDP
  unfold TLP at HT0 HT1
  clear HTL
  generalize DiffG s tr0 tr1 = P at *
  generalize TLG s tr0 = P0 at *
  generalize TLG s tr1 = P1 at *
  obtain ⟨⟨ra0, rb0, rs0, ru0, rl0⟩, dep0, many0⟩ := tr0
  obtain ⟨⟨ra1, rb1, rs1, ru1, rl1⟩, dep1, many1⟩ := tr1
  obtain ⟨R, nR, cR, A, nA, cA, B, nB, cB, G, nG, cG, D, nD, cD⟩ := x
  obtain ⟨rows, refs, last, txg, gone, keep, dead, same⟩ := s
  unfold SA.v Tr.v at *
  dsimp only at *
  have BB0 := Lib.hid ((((box_new w #[.slice R nR cR, .slice A nA cA, .slice B nB cB, .int .i64 txg, .slice G nG cG, .int .i64 keep, .slice D nD cD, .bool same] 38).alloc (.cells #[.int .i64 ra0, .int .i64 rb0, .int .i64 rs0, .int .i64 ru0, .int .i64 rl0, .int .i64 dep0, .int .i64 many0] 42)).alloc (.cells #[.int .i64 ra1, .int .i64 rb1, .int .i64 rs1, .int .i64 ru1, .int .i64 rl1, .int .i64 dep1, .int .i64 many1] 42)).alloc (.cells #[] 3))
  have BB1 := ((box_new (w.alloc (.cells #[.slice R nR cR, .slice A nA cA, .slice B nB cB, .int .i64 txg, .slice G nG cG, .int .i64 keep, .slice D nD cD, .bool same] 38)) #[.int .i64 ra0, .int .i64 rb0, .int .i64 rs0, .int .i64 ru0, .int .i64 rl0, .int .i64 dep0, .int .i64 many0] 42).alloc (.cells #[.int .i64 ra1, .int .i64 rb1, .int .i64 rs1, .int .i64 ru1, .int .i64 rl1, .int .i64 dep1, .int .i64 many1] 42)).alloc (.cells #[] 3)
  simp only [World.size_alloc] at BB1
  replace BB1 := Lib.hid BB1
  have BB2 := (box_new ((w.alloc (.cells #[.slice R nR cR, .slice A nA cA, .slice B nB cB, .int .i64 txg, .slice G nG cG, .int .i64 keep, .slice D nD cD, .bool same] 38)).alloc (.cells #[.int .i64 ra0, .int .i64 rb0, .int .i64 rs0, .int .i64 ru0, .int .i64 rl0, .int .i64 dep0, .int .i64 many0] 42)) #[.int .i64 ra1, .int .i64 rb1, .int .i64 rs1, .int .i64 ru1, .int .i64 rl1, .int .i64 dep1, .int .i64 many1] 42).alloc (.cells #[] 3)
  simp only [World.size_alloc] at BB2
  replace BB2 := Lib.hid BB2
  have HBa := Lib.hid (below_alloc (below_alloc (below_alloc (below_alloc (Below.refl w.heap.size w) (.cells #[.slice R nR cR, .slice A nA cA, .slice B nB cB, .int .i64 txg, .slice G nG cG, .int .i64 keep, .slice D nD cD, .bool same] 38)) (.cells #[.int .i64 ra0, .int .i64 rb0, .int .i64 rs0, .int .i64 ru0, .int .i64 rl0, .int .i64 dep0, .int .i64 many0] 42)) (.cells #[.int .i64 ra1, .int .i64 rb1, .int .i64 rs1, .int .i64 ru1, .int .i64 rl1, .int .i64 dep1, .int .i64 many1] 42)) (.cells #[] 3))
  have HE0 := Lib.hid (own_emptyNAt (base := w.heap.size) (k := w.heap.size + 1 + 1 + 1) (w := (((w.alloc (.cells #[.slice R nR cR, .slice A nA cA, .slice B nB cB, .int .i64 txg, .slice G nG cG, .int .i64 keep, .slice D nD cD, .bool same] 38)).alloc (.cells #[.int .i64 ra0, .int .i64 rb0, .int .i64 rs0, .int .i64 ru0, .int .i64 rl0, .int .i64 dep0, .int .i64 many0] 42)).alloc (.cells #[.int .i64 ra1, .int .i64 rb1, .int .i64 rs1, .int .i64 ru1, .int .i64 rl1, .int .i64 dep1, .int .i64 many1] 42))) (by simp) (by simp; omega))
  go_enter Tryz.func22, Tryz.ntmps22
  go_wp2_with fail
  refine Calls.mono (HT0.out _ HBa.out) ?_
  rintro e w2 ⟨v1, l, b1, rfl, hG1, hO1, hB⟩
  have HG1 := Lib.hid hG1
  obtain ⟨A1, c1, rfl, q1, _, gA1, hr1⟩ := hO1.form
  have HR1 := Lib.hid hr1
  have HB2 := Lib.hid (below_below HBa.out hB)
  have HE2 := Lib.hid (HE0.out.below hB)
  have hw2 : w.heap.size + 1 + 1 + 1 < w2.heap.size := by have := Below.size hB; simp only [World.size_alloc] at this; omega
  have GA1 := Lib.hid (fun a (ha : A1 = some a) => (show w.heap.size + 1 + 1 + 1 < a.block by have := (gA1 a ha).1; simp only [World.size_alloc] at this; omega))
  have BX0 := Lib.hid (BB0.out.below hB)
  have BX2 := Lib.hid (BB2.out.below hB)
  have bx0 := BX0.out.cell
  have bl0 := BX0.out.lt
  have bx2 := BX2.out.cell
  have bl2 := BX2.out.lt
  clear gA1 HE0 hG1 hO1 hr1 hB BB0 BB1 BB2 HBa HT0
  go_wp2_with fail
  refine Calls.mono (HT1.out _ HB2.out) ?_
  rintro e w3 ⟨v2, m, b2, rfl, hG2, hO2, hB⟩
  have HG2 := Lib.hid hG2
  obtain ⟨A2, c2, rfl, q2, _, gA2, hr2⟩ := hO2.form
  have HR2 := Lib.hid hr2
  have HRL := Lib.hid (HR1.out.below hB)
  have HB3 := Lib.hid (below_below HB2.out hB)
  have HE3 := Lib.hid (HE2.out.below hB)
  have GA2 := Lib.hid (fun a (ha : A2 = some a) => (show w.heap.size + 1 + 1 + 1 < a.block by have := (gA2 a ha).1; omega))
  have hw3 : w.heap.size + 1 + 1 + 1 < w3.heap.size := by have := Below.size hB; omega
  have hn1 := HLN.out.1 l b1 HG1.out
  have hn2 := HLN.out.2 m b2 HG2.out
  have HP := Lib.hid (HG.out l m b1 b2 HG1.out HG2.out)
  clear gA2 HE2 hw2 hG2 hO2 hr2 hB bx0 bl0 bx2 bl2 BX0 BX2 HR1 HT1 HG HG1 HG2 HLN
  cases b1
  · rw [Bool.false_and, if_neg (by decide)] at HP
    clear HR2 HRL q1 q2
    generalize l.length = n1 at *
    generalize m.length = n2 at *
    go_wp2_with fail
    go_ret2
    exact ⟨_, [], false, rfl, HP.out, HE3.out, HB3.out⟩
  cases b2
  · rw [Bool.and_false, if_neg (by decide)] at HP
    clear HR2 HRL q1 q2
    generalize l.length = n1 at *
    generalize m.length = n2 at *
    go_wp2_with fail
    go_ret2
    exact ⟨_, [], false, rfl, HP.out, HE3.out, HB3.out⟩
  rw [Bool.true_and, if_pos rfl] at HP
  go_wp2_with fail
  --S1
  go_loopw [8, 13] (fun n y wr => ∃ k : Nat, k ≤ 16 ∧ y = .int .i64 k ∧ Hid (Own encN 1 3 w.heap.size wr n (diffK l m k)) ∧ Hid (Kp [w.heap.size + 1 + 1 + 1] w3 wr) ∧ Hid (∀ b, n.ownBlock = some b → b = w.heap.size + 1 + 1 + 1 ∨ w3.heap.size ≤ b)) (fun n y _ => 16 - (intOf y).toNat)
  case atStart => exact ⟨0, Nat.zero_le _, rfl, HE3, Lib.hid (Kp.refl _ _), Lib.hid (fun b hb => by simp [Value.ownBlock] at hb; omega)⟩
  case round =>
    obtain ⟨k, hk, rfl, HO, HKr, HVr⟩ := hrel
    have HBw := Lib.hid (below_kp HB3.out HKr.out (fun i hi => by simp at hi; omega))
    have hsk := diffK_len l m k
    by_cases hlt : k < 16
    · have k2 : IntKind.i64.wrap ((k : Int) + 1) = (k : Int) + 1 := IntWalk.i64_in _ (by omega)
      have K1 := Lib.hid (And.intro (show ((diffK l m k).length + 1) * 8 ≤ 140737488355328 by omega) (show (diffK l m k).length + 1 ≤ maxLen by unfold maxLen; omega))
      have HD1 := Lib.hid (fun h => @diffK_same l m k h)
      have HD2 := Lib.hid (fun h => @diffK_ne l m k h)
      have HX9 := Lib.hid (And.intro hlt hw3)
      have hsz := HKr.out.size
      have HRl := Lib.hid (HRL.out.kp HKr.out (fun _ a ha hm => by have := GA1.out a ha; simp at hm; omega))
      have HRm := Lib.hid (HR2.out.kp HKr.out (fun _ a ha hm => by have := GA2.out a ha; simp at hm; omega))
      have EL := Lib.hid (fun p h => @pAt_in l k p h)
      have EM := Lib.hid (fun p h => @pAt_in m k p h)
      have FL := Lib.hid (fun h => @pAt_out l k h)
      have FM := Lib.hid (fun h => @pAt_out m k h)
      have HKs := Lib.hid (And.intro HKr.out (And.intro HVr.out HBw.out))
      clear HR2 HRL HP hsk HKr HVr HBw
      generalize hs1 : diffK l m (k + 1) = dk1 at *
      have HS1 := Lib.hid hs1
      clear hs1
      generalize diffK l m k = dk at *
      generalize hP : pAt l k = p at *
      generalize hQ : pAt m k = q at *
      have HPP := Lib.hid hP
      have HQQ := Lib.hid hQ
      clear hP hQ
      by_cases h1 : k < l.length
      · by_cases h2 : k < m.length
        · obtain ⟨b8, o8, p', hA1, hb8, he, p0, p1, p2, p3, p4⟩ := HRl.out.ptr h1
          subst hA1
          obtain rfl : p = p' := EL.out _ he
          clear he
          obtain ⟨b9, o9, q', hA2, hb9, he', r0, r1, r2, r3, r4⟩ := HRm.out.ptr h2
          subst hA2
          obtain rfl : q = q' := EM.out _ he'
          clear he'
          clear EL EM FL FM HPP HQQ HRl HRm
          generalize l.length = n1 at *
          generalize m.length = n2 at *
          have hi1 : (k : Int) < (n1 : Int) := by omega
          have hi2 : (k : Int) < (n2 : Int) := by omega
          rcases same_cases p q with ⟨hsb, hpq⟩ | hne
          · have hd := Lib.hid (HD1.out hsb)
            clear hsb HD1 HD2
            subst hpq
            obtain ⟨pa, pb, ps, pu, pl⟩ := p
            try unfold zeroP at *
            try dsimp only at *
            go_wp2_with fail
            refine ⟨⟨k + 1, by have := HX9.out; omega, by go_num, by rw [HS1.out, hd.out]; exact Lib.hid (HO.out.below (by (repeat (first | exact Below.refl _ _ | refine below_alloc ?_ _ | refine below_set ?_ (by dsimp only; omega) _)))), Lib.hid (kp_trans_below HKs.out.1 (by (repeat (first | exact Below.refl _ _ | refine below_alloc ?_ _ | refine below_set ?_ (by dsimp only; omega) _)))), Lib.hid HKs.out.2.1⟩, by simp [intOf]; have := HX9.out; omega⟩
          · have hd := Lib.hid (HD2.out (ne_same hne))
            clear HD1 HD2
            obtain ⟨pa, pb, ps, pu, pl⟩ := p
            obtain ⟨qa, qb, qs, qu, ql⟩ := q
            unfold Differ at hne
            try unfold zeroP at *
            dsimp only at *
            rcases hne with e1 | ⟨e1, e2⟩ | ⟨e1, e2, e3⟩ | ⟨e1, e2, e3, e4⟩ | ⟨e1, e2, e3, e4, e5⟩
            all_goals
              go_wp2_with (at_builtin; refine wpList_app (ys := ([(k : Int)] : List Int)) elN rfl _ _ rfl (by rfl) (HO.out.below (by (repeat (first | exact Below.refl _ _ | refine below_alloc ?_ _ | refine below_set ?_ (by dsimp only; omega) _)))) (by rfl) rfl (rd_oneNAt _ _ (by simp)) oneN K1.out.1 K1.out.2 (show w.heap.size ≤ _ by have := HX9.out; simp; omega) ?_; intro v1 w6 ownv1 grv1 atv1)
              refine ⟨⟨k + 1, by have := HX9.out; omega, by go_num, by rw [HS1.out, ← hd.out]; exact Lib.hid ownv1, Lib.hid (kp_grown (kp_trans_below HKs.out.1 (by (repeat (first | exact Below.refl _ _ | refine below_alloc ?_ _ | refine below_set ?_ (by dsimp only; omega) _)))) grv1 (fun b hb => by rcases HKs.out.2.1 b hb with h | h; exact .inl (by simp [h]); exact .inr h)), Lib.hid (fun b hb => by rcases atv1 with h | h; (rw [h] at hb; exact HKs.out.2.1 b hb); (rw [h] at hb; cases hb; right; simp; omega))⟩, by simp [intOf]; have := HX9.out; omega⟩
        · obtain ⟨b8, o8, p', hA1, hb8, he, p0, p1, p2, p3, p4⟩ := HRl.out.ptr h1
          subst hA1
          obtain rfl : p = p' := EL.out _ he
          clear he
          obtain rfl : q = zeroP := FM.out h2
          clear EL EM FL FM HPP HQQ HRl HRm
          generalize l.length = n1 at *
          generalize m.length = n2 at *
          have hi1 : (k : Int) < (n1 : Int) := by omega
          have hi2 : ¬ (k : Int) < (n2 : Int) := by omega
          rcases same_cases p zeroP with ⟨hsb, hpq⟩ | hne
          · have hd := Lib.hid (HD1.out hsb)
            clear hsb HD1 HD2
            subst hpq
            try unfold zeroP at *
            try dsimp only at *
            go_wp2_with fail
            refine ⟨⟨k + 1, by have := HX9.out; omega, by go_num, by rw [HS1.out, hd.out]; exact Lib.hid (HO.out.below (by (repeat (first | exact Below.refl _ _ | refine below_alloc ?_ _ | refine below_set ?_ (by dsimp only; omega) _)))), Lib.hid (kp_trans_below HKs.out.1 (by (repeat (first | exact Below.refl _ _ | refine below_alloc ?_ _ | refine below_set ?_ (by dsimp only; omega) _)))), Lib.hid HKs.out.2.1⟩, by simp [intOf]; have := HX9.out; omega⟩
          · have hd := Lib.hid (HD2.out (ne_same hne))
            clear HD1 HD2
            obtain ⟨pa, pb, ps, pu, pl⟩ := p
            unfold Differ at hne
            try unfold zeroP at *
            dsimp only at *
            rcases hne with e1 | ⟨e1, e2⟩ | ⟨e1, e2, e3⟩ | ⟨e1, e2, e3, e4⟩ | ⟨e1, e2, e3, e4, e5⟩
            all_goals
              go_wp2_with (at_builtin; refine wpList_app (ys := ([(k : Int)] : List Int)) elN rfl _ _ rfl (by rfl) (HO.out.below (by (repeat (first | exact Below.refl _ _ | refine below_alloc ?_ _ | refine below_set ?_ (by dsimp only; omega) _)))) (by rfl) rfl (rd_oneNAt _ _ (by simp)) oneN K1.out.1 K1.out.2 (show w.heap.size ≤ _ by have := HX9.out; simp; omega) ?_; intro v1 w6 ownv1 grv1 atv1)
              refine ⟨⟨k + 1, by have := HX9.out; omega, by go_num, by rw [HS1.out, ← hd.out]; exact Lib.hid ownv1, Lib.hid (kp_grown (kp_trans_below HKs.out.1 (by (repeat (first | exact Below.refl _ _ | refine below_alloc ?_ _ | refine below_set ?_ (by dsimp only; omega) _)))) grv1 (fun b hb => by rcases HKs.out.2.1 b hb with h | h; exact .inl (by simp [h]); exact .inr h)), Lib.hid (fun b hb => by rcases atv1 with h | h; (rw [h] at hb; exact HKs.out.2.1 b hb); (rw [h] at hb; cases hb; right; simp; omega))⟩, by simp [intOf]; have := HX9.out; omega⟩
      · by_cases h2 : k < m.length
        · obtain rfl : p = zeroP := FL.out h1
          obtain ⟨b9, o9, q', hA2, hb9, he', r0, r1, r2, r3, r4⟩ := HRm.out.ptr h2
          subst hA2
          obtain rfl : q = q' := EM.out _ he'
          clear he'
          clear EL EM FL FM HPP HQQ HRl HRm
          generalize l.length = n1 at *
          generalize m.length = n2 at *
          have hi1 : ¬ (k : Int) < (n1 : Int) := by omega
          have hi2 : (k : Int) < (n2 : Int) := by omega
          rcases same_cases zeroP q with ⟨hsb, hpq⟩ | hne
          · have hd := Lib.hid (HD1.out hsb)
            clear hsb HD1 HD2
            subst hpq
            try unfold zeroP at *
            try dsimp only at *
            go_wp2_with fail
            refine ⟨⟨k + 1, by have := HX9.out; omega, by go_num, by rw [HS1.out, hd.out]; exact Lib.hid (HO.out.below (by (repeat (first | exact Below.refl _ _ | refine below_alloc ?_ _ | refine below_set ?_ (by dsimp only; omega) _)))), Lib.hid (kp_trans_below HKs.out.1 (by (repeat (first | exact Below.refl _ _ | refine below_alloc ?_ _ | refine below_set ?_ (by dsimp only; omega) _)))), Lib.hid HKs.out.2.1⟩, by simp [intOf]; have := HX9.out; omega⟩
          · have hd := Lib.hid (HD2.out (ne_same hne))
            clear HD1 HD2
            obtain ⟨qa, qb, qs, qu, ql⟩ := q
            unfold Differ at hne
            try unfold zeroP at *
            dsimp only at *
            rcases hne with e1 | ⟨e1, e2⟩ | ⟨e1, e2, e3⟩ | ⟨e1, e2, e3, e4⟩ | ⟨e1, e2, e3, e4, e5⟩
            all_goals
              go_wp2_with (at_builtin; refine wpList_app (ys := ([(k : Int)] : List Int)) elN rfl _ _ rfl (by rfl) (HO.out.below (by (repeat (first | exact Below.refl _ _ | refine below_alloc ?_ _ | refine below_set ?_ (by dsimp only; omega) _)))) (by rfl) rfl (rd_oneNAt _ _ (by simp)) oneN K1.out.1 K1.out.2 (show w.heap.size ≤ _ by have := HX9.out; simp; omega) ?_; intro v1 w6 ownv1 grv1 atv1)
              refine ⟨⟨k + 1, by have := HX9.out; omega, by go_num, by rw [HS1.out, ← hd.out]; exact Lib.hid ownv1, Lib.hid (kp_grown (kp_trans_below HKs.out.1 (by (repeat (first | exact Below.refl _ _ | refine below_alloc ?_ _ | refine below_set ?_ (by dsimp only; omega) _)))) grv1 (fun b hb => by rcases HKs.out.2.1 b hb with h | h; exact .inl (by simp [h]); exact .inr h)), Lib.hid (fun b hb => by rcases atv1 with h | h; (rw [h] at hb; exact HKs.out.2.1 b hb); (rw [h] at hb; cases hb; right; simp; omega))⟩, by simp [intOf]; have := HX9.out; omega⟩
        · obtain rfl : p = zeroP := FL.out h1
          obtain rfl : q = zeroP := FM.out h2
          clear EL EM FL FM HPP HQQ HRl HRm
          generalize l.length = n1 at *
          generalize m.length = n2 at *
          have hi1 : ¬ (k : Int) < (n1 : Int) := by omega
          have hi2 : ¬ (k : Int) < (n2 : Int) := by omega
          rcases same_cases zeroP zeroP with ⟨hsb, hpq⟩ | hne
          · have hd := Lib.hid (HD1.out hsb)
            clear hsb HD1 HD2
            clear hpq
            try unfold zeroP at *
            try dsimp only at *
            go_wp2_with fail
            refine ⟨⟨k + 1, by have := HX9.out; omega, by go_num, by rw [HS1.out, hd.out]; exact Lib.hid (HO.out.below (by (repeat (first | exact Below.refl _ _ | refine below_alloc ?_ _ | refine below_set ?_ (by dsimp only; omega) _)))), Lib.hid (kp_trans_below HKs.out.1 (by (repeat (first | exact Below.refl _ _ | refine below_alloc ?_ _ | refine below_set ?_ (by dsimp only; omega) _)))), Lib.hid HKs.out.2.1⟩, by simp [intOf]; have := HX9.out; omega⟩
          · exact absurd hne (by unfold Differ zeroP; decide)
    · obtain rfl : k = 16 := by omega
      clear HR2 HRL q1 q2
      generalize l.length = n1 at *
      generalize m.length = n2 at *
      go_wp2_with fail
      go_ret2
      exact ⟨_, _, true, rfl, HP.out, HO.out, HBw.out⟩

end Go.Proofs.YtafadedacbjioaaGreatDoor

/- A store's copy as rows of the call's own, apart from one another. -/
namespace Go.Proofs.YtafadedacbjioaaGreatDoor
open Go.RowKit
set_option maxRecDepth 100000
set_option linter.unusedVariables false
set_option linter.unusedSimpArgs false

theorem own_box {α : Type} {enc : α → Nat → Value} {sz T base p : Nat} {w w' : World} {v : Value} {xs : List α} (h : Own enc sz T base w v xs) (hK : Kp [p, p + 1] w w') (hb : p + 1 < base) : Own enc sz T base w' v xs :=
  h.kp hK (fun k hm e => by have := own_in h k (mem_exOf' e); simp at hm; omega)

def SpOwnO (w : World) (rs ls : List Int) (e : Ending) (w' : World) : Prop := ∃ A c B d, e = .returned (.agg #[.slice A rs.length c, .slice B ls.length d]) ∧ Own encN 1 3 w.heap.size w' (.slice A rs.length c) rs ∧ Own encN 1 3 w.heap.size w' (.slice B ls.length d) ls ∧ Apart (.slice A rs.length c) (.slice B ls.length d) ∧ Below w.heap.size w w'

set_option maxHeartbeats 2000000 in
theorem toSpace_ownO (w : World) (A B : Option Addr) (c d : Nat) (rs ls : List Int) (h : RdT encN 1 w A rs) (g : RdT encN 1 w B ls) (hc : rs.length ≤ c) (hd : ls.length ≤ d) (hn : rs.length ≤ 1048576) (hm : ls.length ≤ 1048576) :
    Calls Tryz.prog 39 #[.agg #[.slice A rs.length c, .slice B ls.length d]] w (SpOwnO w rs ls) := by
  have HR := Lib.hid h
  have HG := Lib.hid g
  clear h g
  go_enter Tryz.func39, Tryz.ntmps39
  go_wp2_with fail
  have HBw := Lib.hid (below_alloc (below_alloc (below_alloc (Below.refl w.heap.size w) (.cells #[.slice A rs.length c, .slice B ls.length d] 25)) (.cells #[.slice none 0 0, .slice none 0 0] 35)) (.cells #[.slice none 0 0, .slice none 0 0] 35))
  refine Calls.mono (toIntS_any _ A c rs (HR.out.below HBw.out) hc hn) ?_
  rintro e w1 ⟨v1, rfl, hO1, hB1⟩
  obtain ⟨A1, cap1, rfl, hc1, hm1, hge1, hR1⟩ := hO1.form
  have HB1 := Lib.hid (below_below HBw.out hB1)
  have HR1 := Lib.hid (Own.more hO1 (base' := w.heap.size + 1 + 1 + 1) (by simp))
  have HX1 := Lib.hid (fun k hk => (own_in hO1 k hk).2)
  have HG1 := Lib.hid hge1
  obtain ⟨c1, f1⟩ := bcell hB1
  have hz1 : w.heap.size + 1 + 1 < w1.heap.size := by have := hB1.size; simp at this; omega
  have hy1 : w.heap.size + 1 < w1.heap.size := by omega
  have hx1 : w.heap.size < w1.heap.size := by omega
  clear hB1 hO1 hR1 hge1
  go_wp2_with fail
  have HBs := Lib.hid (below_set HB1.out (p := ⟨w.heap.size + 1 + 1, 0, none⟩) (by dsimp only; omega) (.slice A1 rs.length cap1))
  have hS1 : (w1.setCell ⟨w.heap.size + 1 + 1, 0, none⟩ (.slice A1 rs.length cap1)).heap.size = w1.heap.size := World.size_setCell _ _ _
  refine Calls.mono (toIntS_any _ B d ls (HG.out.below HBs.out) hd hm) ?_
  rintro e w2 ⟨v2, rfl, hO2, hB2⟩
  obtain ⟨A2, cap2, rfl, hc2, hm2, hge2, hR2⟩ := hO2.form
  have HB2 := Lib.hid (below_below HBs.out hB2)
  have hz2 : w.heap.size + 1 + 1 < w2.heap.size := by have := hB2.size; rw [hS1] at this; omega
  have hy2 : w.heap.size + 1 < w2.heap.size := by omega
  have HR2 := Lib.hid (Own.more hO2 (base' := w.heap.size + 1 + 1 + 1) (by rw [hS1]; omega))
  have HAP := Lib.hid (show Apart (.slice A1 rs.length cap1) (.slice A2 ls.length cap2) from fun k hk hm => by have h1 := HX1.out k hk; have h2 := (own_in hO2 k hm).1; rw [hS1] at h2; omega)
  have HG2 := Lib.hid hge2
  have HK := Lib.hid (Kp.of_below hB2)
  obtain ⟨c2, f2⟩ := bcell hB2
  rw [hS1] at c2 f2
  clear hB2 hO2 hR2 hge2
  have k1 : Kp [w.heap.size + 1, w.heap.size + 1 + 1] w1 (w1.setCell ⟨w.heap.size + 1 + 1, 0, none⟩ (.slice A1 rs.length cap1)) := (Kp.refl _ _).setCell (.inl (by simp)) _
  have HK2 := Lib.hid (k1.trans (HK.out.all _))
  clear k1
  go_wp2_with fail
  have HKf := Lib.hid ((((Kp.refl [w.heap.size + 1, w.heap.size + 1 + 1] w2).setCell (p := ⟨w.heap.size + 1 + 1, 1, none⟩) (.inl (by simp)) (.slice A2 ls.length cap2)).setCell (p := ⟨w.heap.size + 1, 0, none⟩) (.inl (by simp)) (.slice A1 rs.length cap1)).setCell (p := ⟨w.heap.size + 1, 1, none⟩) (.inl (by simp)) (.slice A2 ls.length cap2))
  have HBf := Lib.hid (below_set (below_set (below_set HB2.out (p := ⟨w.heap.size + 1 + 1, 1, none⟩) (by dsimp only; omega) (.slice A2 ls.length cap2)) (p := ⟨w.heap.size + 1, 0, none⟩) (by dsimp only; omega) (.slice A1 rs.length cap1)) (p := ⟨w.heap.size + 1, 1, none⟩) (by dsimp only; omega) (.slice A2 ls.length cap2))
  have HRf := Own.more (own_box HR1.out (HK2.out.trans HKf.out) (by omega)) (base' := w.heap.size) (by omega)
  have HRg := Own.more (own_box HR2.out HKf.out (by omega)) (base' := w.heap.size) (by omega)

  refine bodyPost_ret (v := .agg #[.slice A1 rs.length cap1, .slice A2 ls.length cap2]) (by simp [results, Tryz.results39, go_sem, c2, c1, hy1, hx1]) rfl ⟨A1, cap1, A2, cap2, rfl, HRf, HRg, HAP.out, HBf.out⟩

def ToStO (w : World) (s : St) (e : Ending) (w' : World) : Prop := ∃ y : SA, e = .returned (y.v s.txg s.keep s.same) ∧ SOwn w.heap.size w' y s ∧ Below w.heap.size w w'

set_option maxHeartbeats 8000000 in
theorem toStoreOwn_any (w : World) (x : SA) (s : St) (h : SRd w x s) (bR : x.nR ≤ 1048576) (bA : x.nA ≤ 1048576) (bB : x.nB ≤ 1048576) (bG : x.nG ≤ 1048576) (bD : x.nD ≤ 1048576) :
    Calls Tryz.prog 12 #[x.v s.txg s.keep s.same] w (ToStO w s) := by
  have HX := Lib.hid h
  have E1 := Lib.hid (fun W (hB : Below w.heap.size w W) => (by have := toStringS_any W x.R x.cR s.rows (HX.out.rows.below hB) (by rw [HX.out.lR]; exact HX.out.hR) (by rw [HX.out.lR]; exact bR); rw [HX.out.lR] at this; exact this : Calls Tryz.prog 38 #[.slice x.R x.nR x.cR] W (SPost W s.rows)))
  have E2 := Lib.hid (fun W (hB : Below w.heap.size w W) => (by have := toSpace_ownO W x.A x.B x.cA x.cB s.refs s.last (HX.out.refs.below hB) (HX.out.last.below hB) (by rw [HX.out.lA]; exact HX.out.hA) (by rw [HX.out.lB]; exact HX.out.hB) (by rw [HX.out.lA]; exact bA) (by rw [HX.out.lB]; exact bB); rw [HX.out.lA, HX.out.lB] at this; exact this : Calls Tryz.prog 39 #[.agg #[.slice x.A x.nA x.cA, .slice x.B x.nB x.cB]] W (SpOwnO W s.refs s.last)))
  have E3 := Lib.hid (fun W (hB : Below w.heap.size w W) => (by have := toPtrS_any W x.G x.cG s.gone (HX.out.gone.below hB) (by rw [HX.out.lG]; exact HX.out.hG) (by rw [HX.out.lG]; exact bG); rw [HX.out.lG] at this; exact this : Calls Tryz.prog 40 #[.slice x.G x.nG x.cG] W (PPost W s.gone)))
  have E4 := Lib.hid (fun W (hB : Below w.heap.size w W) => (by have := toPtrS_any W x.D x.cD s.dead (HX.out.dead.below hB) (by rw [HX.out.lD]; exact HX.out.hD) (by rw [HX.out.lD]; exact bD); rw [HX.out.lD] at this; exact this : Calls Tryz.prog 40 #[.slice x.D x.nD x.cD] W (PPost W s.dead)))
  clear h HX
  obtain ⟨R, nR, cR, A, nA, cA, B, nB, cB, G, nG, cG, D, nD, cD⟩ := x
  unfold SA.v
  dsimp only at *
  have HBw := Lib.hid (below_alloc (below_alloc (below_alloc (Below.refl w.heap.size w) (.cells #[.slice R nR cR, .slice A nA cA, .slice B nB cB, .int .i64 s.txg, .slice G nG cG, .int .i64 s.keep, .slice D nD cD, .bool s.same] 28)) (.cells #[.slice none 0 0, .slice none 0 0, .slice none 0 0, .int .i64 0, .slice none 0 0, .int .i64 0, .slice none 0 0, .bool false] 38)) (.cells #[.slice none 0 0, .slice none 0 0, .slice none 0 0, .int .i64 0, .slice none 0 0, .int .i64 0, .slice none 0 0, .bool false] 38))
  go_enter Tryz.func12, Tryz.ntmps12
  have SB0 := Lib.hid (((box_new w #[.slice R nR cR, .slice A nA cA, .slice B nB cB, .int .i64 s.txg, .slice G nG cG, .int .i64 s.keep, .slice D nD cD, .bool s.same] 28).alloc (.cells #[.slice none 0 0, .slice none 0 0, .slice none 0 0, .int .i64 0, .slice none 0 0, .int .i64 0, .slice none 0 0, .bool false] 38)).alloc (.cells #[.slice none 0 0, .slice none 0 0, .slice none 0 0, .int .i64 0, .slice none 0 0, .int .i64 0, .slice none 0 0, .bool false] 38))
  have RC0 := box_new (w.alloc (.cells #[.slice R nR cR, .slice A nA cA, .slice B nB cB, .int .i64 s.txg, .slice G nG cG, .int .i64 s.keep, .slice D nD cD, .bool s.same] 28)) #[.slice none 0 0, .slice none 0 0, .slice none 0 0, .int .i64 0, .slice none 0 0, .int .i64 0, .slice none 0 0, .bool false] 38
  have OT0 := box_new ((w.alloc (.cells #[.slice R nR cR, .slice A nA cA, .slice B nB cB, .int .i64 s.txg, .slice G nG cG, .int .i64 s.keep, .slice D nD cD, .bool s.same] 28)).alloc (.cells #[.slice none 0 0, .slice none 0 0, .slice none 0 0, .int .i64 0, .slice none 0 0, .int .i64 0, .slice none 0 0, .bool false] 38)) #[.slice none 0 0, .slice none 0 0, .slice none 0 0, .int .i64 0, .slice none 0 0, .int .i64 0, .slice none 0 0, .bool false] 38
  rw [World.size_alloc] at RC0 OT0
  rw [World.size_alloc] at OT0
  replace RC0 := Lib.hid (RC0.alloc (.cells #[.slice none 0 0, .slice none 0 0, .slice none 0 0, .int .i64 0, .slice none 0 0, .int .i64 0, .slice none 0 0, .bool false] 38))
  replace OT0 := Lib.hid OT0
  go_wp2_with fail
  refine Calls.mono (E1.out _ HBw.out) ?_
  rintro e w1 ⟨v1, rfl, hO1, hB1⟩
  obtain ⟨A1, cap1, rfl, hc1, hm1, hge1, hR1⟩ := hO1.form
  have HB1 := Lib.hid (below_below HBw.out hB1)
  have R1 := Lib.hid (Own.more hO1 (base' := w.heap.size + 1 + 1 + 1) (by simp))
  have X1 := Lib.hid (fun k hk => (own_in hO1 k hk).2)
  have SB1 := Lib.hid (SB0.out.below hB1)
  have RC1 := Lib.hid (RC0.out.below hB1)
  have OT1 := Lib.hid (OT0.out.below hB1)
  have sb1 := SB1.out.cell
  have sl1 := SB1.out.lt
  have rb1 := RC1.out.cell
  have rf1 := RC1.out.froz
  have rl1 := RC1.out.lt
  have ob1 := OT1.out.cell
  have of1 := OT1.out.froz
  have ol1 := OT1.out.lt
  have hw1 : w.heap.size + 1 + 1 < w1.heap.size := ol1
  clear hB1 hO1 hR1 hge1 SB0 RC0 OT0
  go_wp2_with fail
  have OT1b := Lib.hid (OT1.out.put 0 (.slice A1 s.rows.length cap1))
  have SB1b := Lib.hid (SB1.out.set (p := ⟨w.heap.size + 1 + 1, 0, none⟩) (by dsimp only; omega) (.slice A1 s.rows.length cap1))
  have RC1b := Lib.hid (RC1.out.set (p := ⟨w.heap.size + 1 + 1, 0, none⟩) (by dsimp only; omega) (.slice A1 s.rows.length cap1))
  have HB1b := Lib.hid (below_set HB1.out (p := ⟨w.heap.size + 1 + 1, 0, none⟩) (by dsimp only; omega) (.slice A1 s.rows.length cap1))
  have K1 := Lib.hid ((Kp.refl [w.heap.size + 1, w.heap.size + 1 + 1] w1).setCell (p := ⟨w.heap.size + 1 + 1, 0, none⟩) (.inl (by simp)) (.slice A1 s.rows.length cap1))
  clear sb1 sl1 rb1 rf1 rl1 ob1 of1 ol1 SB1 RC1 OT1
  have z1 : (w1.setCell ⟨w.heap.size + 1 + 1, 0, none⟩ (.slice A1 s.rows.length cap1)).heap.size = w1.heap.size := World.size_setCell _ _ _
  refine Calls.mono (E2.out _ HB1b.out) ?_
  rintro e w2 ⟨A2, cap2, A3, cap3, rfl, hr2, hr3, hap, hB2⟩
  have HB2 := Lib.hid (below_below HB1b.out hB2)
  have SB2 := Lib.hid (SB1b.out.below hB2)
  have RC2 := Lib.hid (RC1b.out.below hB2)
  have OT2 := Lib.hid (show BoxAt w2 (w.heap.size + 1 + 1) #[.slice A1 s.rows.length cap1, .slice none 0 0, .slice none 0 0, .int .i64 0, .slice none 0 0, .int .i64 0, .slice none 0 0, .bool false] 38 from OT1b.out.below hB2)
  have KK1 := Lib.hid (kp_trans_below K1.out hB2)
  clear OT1b SB1b RC1b HB1b K1
  have R1b := Lib.hid (own_box R1.out KK1.out (by omega))
  have R2 := Lib.hid (Own.more hr2 (base' := w.heap.size + 1 + 1 + 1) (by rw [z1]; omega))
  have R3 := Lib.hid (Own.more hr3 (base' := w.heap.size + 1 + 1 + 1) (by rw [z1]; omega))
  have X2 := Lib.hid (fun k hk => by have := own_in hr2 k hk; rw [z1] at this; exact this)
  have X3 := Lib.hid (fun k hk => by have := own_in hr3 k hk; rw [z1] at this; exact this)
  have P23 := Lib.hid hap
  have sb2 := SB2.out.cell
  have sl2 := SB2.out.lt
  have rb2 := RC2.out.cell
  have rf2 := RC2.out.froz
  have rl2 := RC2.out.lt
  have ob2 := OT2.out.cell
  have of2 := OT2.out.froz
  have ol2 := OT2.out.lt
  have h12 : w1.heap.size ≤ w2.heap.size := KK1.out.size
  clear hB2 hr2 hr3 hap R1 KK1 HB1 z1
  go_wp2_with fail
  have OT2b := Lib.hid (((OT2.out.put 1 (.slice A2 s.refs.length cap2)).put 2 (.slice A3 s.last.length cap3)).put 3 (.int .i64 s.txg))
  have SB2b := Lib.hid (((SB2.out.set (p := ⟨w.heap.size + 1 + 1, 1, none⟩) (by dsimp only; omega) (.slice A2 s.refs.length cap2)).set (p := ⟨w.heap.size + 1 + 1, 2, none⟩) (by dsimp only; omega) (.slice A3 s.last.length cap3)).set (p := ⟨w.heap.size + 1 + 1, 3, none⟩) (by dsimp only; omega) (.int .i64 s.txg))
  have RC2b := Lib.hid (((RC2.out.set (p := ⟨w.heap.size + 1 + 1, 1, none⟩) (by dsimp only; omega) (.slice A2 s.refs.length cap2)).set (p := ⟨w.heap.size + 1 + 1, 2, none⟩) (by dsimp only; omega) (.slice A3 s.last.length cap3)).set (p := ⟨w.heap.size + 1 + 1, 3, none⟩) (by dsimp only; omega) (.int .i64 s.txg))
  have HB2b := Lib.hid (below_set (below_set (below_set HB2.out (p := ⟨w.heap.size + 1 + 1, 1, none⟩) (by dsimp only; omega) (.slice A2 s.refs.length cap2)) (p := ⟨w.heap.size + 1 + 1, 2, none⟩) (by dsimp only; omega) (.slice A3 s.last.length cap3)) (p := ⟨w.heap.size + 1 + 1, 3, none⟩) (by dsimp only; omega) (.int .i64 s.txg))
  have K2 := Lib.hid ((((Kp.refl [w.heap.size + 1, w.heap.size + 1 + 1] w2).setCell (p := ⟨w.heap.size + 1 + 1, 1, none⟩) (.inl (by simp)) (.slice A2 s.refs.length cap2)).setCell (p := ⟨w.heap.size + 1 + 1, 2, none⟩) (.inl (by simp)) (.slice A3 s.last.length cap3)).setCell (p := ⟨w.heap.size + 1 + 1, 3, none⟩) (.inl (by simp)) (.int .i64 s.txg))
  clear sb2 sl2 rb2 rf2 rl2 ob2 of2 ol2 SB2 RC2 OT2
  refine Calls.mono (E3.out _ HB2b.out) ?_
  rintro e w3 ⟨v4, rfl, hO3, hB3⟩
  obtain ⟨A4, cap4, rfl, hc4, hm4, hge4, hR4⟩ := hO3.form
  simp only [World.size_setCell] at hge4
  have HB3 := Lib.hid (below_below HB2b.out hB3)
  have SB3 := Lib.hid (SB2b.out.below hB3)
  have RC3 := Lib.hid (RC2b.out.below hB3)
  have OT3 := Lib.hid (show BoxAt w3 (w.heap.size + 1 + 1) #[.slice A1 s.rows.length cap1, .slice A2 s.refs.length cap2, .slice A3 s.last.length cap3, .int .i64 s.txg, .slice none 0 0, .int .i64 0, .slice none 0 0, .bool false] 38 from OT2b.out.below hB3)
  have KK2 := Lib.hid (kp_trans_below K2.out hB3)
  clear OT2b SB2b RC2b HB2b K2
  have R1c := Lib.hid (own_box R1b.out KK2.out (by omega))
  have R2c := Lib.hid (own_box R2.out KK2.out (by omega))
  have R3c := Lib.hid (own_box R3.out KK2.out (by omega))
  have R4 := Lib.hid (Own.more hO3 (base' := w.heap.size + 1 + 1 + 1) (by simp only [World.size_setCell]; omega))
  have X4 := Lib.hid (fun k hk => by have := own_in hO3 k hk; simp only [World.size_setCell] at this; exact this)
  have sb3 := SB3.out.cell
  have sl3 := SB3.out.lt
  have rb3 := RC3.out.cell
  have rf3 := RC3.out.froz
  have rl3 := RC3.out.lt
  have ob3 := OT3.out.cell
  have of3 := OT3.out.froz
  have ol3 := OT3.out.lt
  have h23 : w2.heap.size ≤ w3.heap.size := KK2.out.size
  clear hB3 hO3 hR4 hge4 R1b R2 R3 KK2 HB2
  go_wp2_with fail
  have OT3b := Lib.hid ((OT3.out.put 4 (.slice A4 s.gone.length cap4)).put 5 (.int .i64 s.keep))
  have SB3b := Lib.hid ((SB3.out.set (p := ⟨w.heap.size + 1 + 1, 4, none⟩) (by dsimp only; omega) (.slice A4 s.gone.length cap4)).set (p := ⟨w.heap.size + 1 + 1, 5, none⟩) (by dsimp only; omega) (.int .i64 s.keep))
  have RC3b := Lib.hid ((RC3.out.set (p := ⟨w.heap.size + 1 + 1, 4, none⟩) (by dsimp only; omega) (.slice A4 s.gone.length cap4)).set (p := ⟨w.heap.size + 1 + 1, 5, none⟩) (by dsimp only; omega) (.int .i64 s.keep))
  have HB3b := Lib.hid (below_set (below_set HB3.out (p := ⟨w.heap.size + 1 + 1, 4, none⟩) (by dsimp only; omega) (.slice A4 s.gone.length cap4)) (p := ⟨w.heap.size + 1 + 1, 5, none⟩) (by dsimp only; omega) (.int .i64 s.keep))
  have K3 := Lib.hid (((Kp.refl [w.heap.size + 1, w.heap.size + 1 + 1] w3).setCell (p := ⟨w.heap.size + 1 + 1, 4, none⟩) (.inl (by simp)) (.slice A4 s.gone.length cap4)).setCell (p := ⟨w.heap.size + 1 + 1, 5, none⟩) (.inl (by simp)) (.int .i64 s.keep))
  clear sb3 sl3 rb3 rf3 rl3 ob3 of3 ol3 SB3 RC3 OT3
  refine Calls.mono (E4.out _ HB3b.out) ?_
  rintro e w4 ⟨v5, rfl, hO4, hB4⟩
  obtain ⟨A5, cap5, rfl, hc5, hm5, hge5, hR5⟩ := hO4.form
  simp only [World.size_setCell] at hge5
  have HB4 := Lib.hid (below_below HB3b.out hB4)
  have SB4 := Lib.hid (SB3b.out.below hB4)
  have RC4 := Lib.hid (RC3b.out.below hB4)
  have OT4 := Lib.hid (show BoxAt w4 (w.heap.size + 1 + 1) #[.slice A1 s.rows.length cap1, .slice A2 s.refs.length cap2, .slice A3 s.last.length cap3, .int .i64 s.txg, .slice A4 s.gone.length cap4, .int .i64 s.keep, .slice none 0 0, .bool false] 38 from OT3b.out.below hB4)
  have KK3 := Lib.hid (kp_trans_below K3.out hB4)
  clear OT3b SB3b RC3b HB3b K3
  have R1d := Lib.hid (own_box R1c.out KK3.out (by omega))
  have R2d := Lib.hid (own_box R2c.out KK3.out (by omega))
  have R3d := Lib.hid (own_box R3c.out KK3.out (by omega))
  have R4d := Lib.hid (own_box R4.out KK3.out (by omega))
  have R5 := Lib.hid (Own.more hO4 (base' := w.heap.size + 1 + 1 + 1) (by simp only [World.size_setCell]; omega))
  have X5 := Lib.hid (fun k hk => by have := own_in hO4 k hk; simp only [World.size_setCell] at this; exact this)
  have sb4 := SB4.out.cell
  have sl4 := SB4.out.lt
  have rb4 := RC4.out.cell
  have rf4 := RC4.out.froz
  have rl4 := RC4.out.lt
  have ob4 := OT4.out.cell
  have of4 := OT4.out.froz
  have ol4 := OT4.out.lt
  have h34 : w3.heap.size ≤ w4.heap.size := KK3.out.size
  clear hB4 hO4 hR5 hge5 R1c R2c R3c R4 KK3 HB3
  go_wp2_with fail
  have KF := Lib.hid (((((((((((Kp.refl [w.heap.size + 1, w.heap.size + 1 + 1] w4).setCell (p := ⟨w.heap.size + 1 + 1, 6, none⟩) (.inl (by simp)) (.slice A5 s.dead.length cap5)).setCell (p := ⟨w.heap.size + 1 + 1, 7, none⟩) (.inl (by simp)) (.bool s.same)).setCell (p := ⟨w.heap.size + 1, 0, none⟩) (.inl (by simp)) (.slice A1 s.rows.length cap1)).setCell (p := ⟨w.heap.size + 1, 1, none⟩) (.inl (by simp)) (.slice A2 s.refs.length cap2)).setCell (p := ⟨w.heap.size + 1, 2, none⟩) (.inl (by simp)) (.slice A3 s.last.length cap3)).setCell (p := ⟨w.heap.size + 1, 3, none⟩) (.inl (by simp)) (.int .i64 s.txg)).setCell (p := ⟨w.heap.size + 1, 4, none⟩) (.inl (by simp)) (.slice A4 s.gone.length cap4)).setCell (p := ⟨w.heap.size + 1, 5, none⟩) (.inl (by simp)) (.int .i64 s.keep)).setCell (p := ⟨w.heap.size + 1, 6, none⟩) (.inl (by simp)) (.slice A5 s.dead.length cap5)).setCell (p := ⟨w.heap.size + 1, 7, none⟩) (.inl (by simp)) (.bool s.same))
  have HBF := Lib.hid (below_set (below_set (below_set (below_set (below_set (below_set (below_set (below_set (below_set (below_set HB4.out (p := ⟨w.heap.size + 1 + 1, 6, none⟩) (by dsimp only; omega) (.slice A5 s.dead.length cap5)) (p := ⟨w.heap.size + 1 + 1, 7, none⟩) (by dsimp only; omega) (.bool s.same)) (p := ⟨w.heap.size + 1, 0, none⟩) (by dsimp only; omega) (.slice A1 s.rows.length cap1)) (p := ⟨w.heap.size + 1, 1, none⟩) (by dsimp only; omega) (.slice A2 s.refs.length cap2)) (p := ⟨w.heap.size + 1, 2, none⟩) (by dsimp only; omega) (.slice A3 s.last.length cap3)) (p := ⟨w.heap.size + 1, 3, none⟩) (by dsimp only; omega) (.int .i64 s.txg)) (p := ⟨w.heap.size + 1, 4, none⟩) (by dsimp only; omega) (.slice A4 s.gone.length cap4)) (p := ⟨w.heap.size + 1, 5, none⟩) (by dsimp only; omega) (.int .i64 s.keep)) (p := ⟨w.heap.size + 1, 6, none⟩) (by dsimp only; omega) (.slice A5 s.dead.length cap5)) (p := ⟨w.heap.size + 1, 7, none⟩) (by dsimp only; omega) (.bool s.same))
  have F0 := Own.more (own_box R1d.out KF.out (by omega)) (base' := w.heap.size) (by omega)
  have F1 := Own.more (own_box R2d.out KF.out (by omega)) (base' := w.heap.size) (by omega)
  have F2 := Own.more (own_box R3d.out KF.out (by omega)) (base' := w.heap.size) (by omega)
  have F3 := Own.more (own_box R4d.out KF.out (by omega)) (base' := w.heap.size) (by omega)
  have F4 := Own.more (own_box R5.out KF.out (by omega)) (base' := w.heap.size) (by omega)
  refine bodyPost_ret (v := .agg #[.slice A1 s.rows.length cap1, .slice A2 s.refs.length cap2, .slice A3 s.last.length cap3, .int .i64 s.txg, .slice A4 s.gone.length cap4, .int .i64 s.keep, .slice A5 s.dead.length cap5, .bool s.same]) (by simp [results, Tryz.results12, go_sem, ob4, rb4]) rfl ?_
  exact ⟨⟨A1, s.rows.length, cap1, A2, s.refs.length, cap2, A3, s.last.length, cap3, A4, s.gone.length, cap4, A5, s.dead.length, cap5⟩, rfl, ⟨F0, F1, F2, F3, F4, (fun k hk hm => by have := X1.out k hk; have := X2.out k hm; omega), (fun k hk hm => by have := X1.out k hk; have := X3.out k hm; omega), (fun k hk hm => by have := X1.out k hk; have := X4.out k hm; omega), (fun k hk hm => by have := X1.out k hk; have := X5.out k hm; omega), P23.out, (fun k hk hm => by have := X2.out k hk; have := X4.out k hm; omega), (fun k hk hm => by have := X2.out k hk; have := X5.out k hm; omega), (fun k hk hm => by have := X3.out k hk; have := X4.out k hm; omega), (fun k hk hm => by have := X3.out k hk; have := X5.out k hm; omega), (fun k hk hm => by have := X4.out k hk; have := X5.out k hm; omega)⟩, HBF.out⟩

end Go.Proofs.YtafadedacbjioaaGreatDoor

/- FnExactTreeDiff returns true for every store and every two trees. The package-level variables that its row lists are tied; no condition of ours. -/
namespace Go.Proofs.YtafadedacbjioaaGreatDoor.lawExactTreeDiff
open Go.ChangeShapes Go.WideShapes Go.ChangeAt Go.RowKit Go.Sort
set_option maxRecDepth 100000
set_option linter.unusedVariables false
set_option linter.unusedSimpArgs false

theorem maxAt_of {W : World} (h : W.ShapedOpen Tryz.prog) : MaxAt W := Tryz.laysM146.s1_3 W h
theorem st8 {w : World} {b : Nat} {c0 c1 c2 c3 c4 c5 c6 c7 : Value} {T : TypeId} (h : BoxAt w b #[c0, c1, c2, c3, c4, c5, c6, c7] T) :
    w.cell? ⟨b, 0, none⟩ = some c0 ∧ w.cell? ⟨b, 1, none⟩ = some c1 ∧ w.cell? ⟨b, 2, none⟩ = some c2 ∧ w.cell? ⟨b, 3, none⟩ = some c3 ∧ w.cell? ⟨b, 4, none⟩ = some c4 ∧ w.cell? ⟨b, 5, none⟩ = some c5 ∧ w.cell? ⟨b, 6, none⟩ = some c6 ∧ w.cell? ⟨b, 7, none⟩ = some c7 :=
  ⟨h.cell 0, h.cell 1, h.cell 2, h.cell 3, h.cell 4, h.cell 5, h.cell 6, h.cell 7⟩

theorem eq_own (W : World) (b1 b2 : Nat) (v u : Value) (l : List Int) (h1 : Own encN 1 3 b1 W v l) (h2 : Own encN 1 3 b2 W u l) :
    Calls Tryz.prog 24 #[v, u] W fun e w' => e = .returned (.bool true) ∧ Below W.heap.size W w' := by
  obtain ⟨A, c, rfl, hc, hm, _, h⟩ := h1.form
  obtain ⟨B, d, rfl, hd, _, _, g⟩ := h2.form
  exact eqIntS_true W A B c d l h g hc hd hm
theorem mark_own (W : World) (b1 : Nat) (v : Value) (l : List Int) (hl : l.length ≤ 1048576) (h1 : Own encN 1 3 b1 W v l) :
    Calls Tryz.prog 25 #[v, .int .i64 1] W fun e w' => e = .returned (.int .i64 ((1 + l.length) : Nat)) ∧ Own encN 1 3 b1 w' v (markN 1 l.length) ∧ Kp (exOf' v) W w' := markIntS_any b1 W v 1 l h1 hl (by omega)
theorem held_own (W : World) (b1 n : Nat) (v : Value) (hl : n ≤ 1048576) (h1 : Own encN 1 3 b1 W v (markN 1 n)) :
    Calls Tryz.prog 26 #[v, .int .i64 1] W fun e w' => e = .returned (.int .i64 ((1 + n) : Nat)) ∧ W = w' := by
  obtain ⟨A, c, rfl, hc, hm, _, h⟩ := h1.form
  rw [markN_length] at *
  exact heldIntS_any W A c n 1 h hc hl (by omega)

set_option maxHeartbeats 8000000 in
theorem walk (w : World) (x : SA) (s : St) (tr0 : Tr) (tr1 : Tr) (h : SRd w x s) (hz : ∀ r ∈ s.rows, r.size ≤ 9223372036854775807) (hM : MaxAt w) (hT : TenAt w) (hE : ErrAt w) :
    Calls Tryz.prog 5 #[x.v s.txg s.keep s.same, tr0.v, tr1.v] w fun e w' => e = .returned (.bool true) ∧ Below w.heap.size w w' := by
  have HX := Lib.hid h
  have LB := Lib.hid (And.intro hM (And.intro hT hE))
  have SZ := Lib.hid (fun W (hB : Below w.heap.size w W) => szStore_any W x s (HX.out.below hB) hz)
  have TS := Lib.hid (fun (hb : x.nR ≤ 1048576 ∧ x.nA ≤ 1048576 ∧ x.nB ≤ 1048576 ∧ x.nG ≤ 1048576 ∧ x.nD ≤ 1048576) W (hB : Below w.heap.size w W) => toStoreOwn_any W x s (HX.out.below hB) hb.1 hb.2.1 hb.2.2.1 hb.2.2.2.1 hb.2.2.2.2)
  have TT0 := Lib.hid (fun W => toTreeT_any tr0 W)
  have TT1 := Lib.hid (fun W => toTreeT_any tr1 W)
  have SO := Lib.hid (fun W (y : SA) (h : SRd W y s) g d => (specTreeDiff_any W y s tr0 tr1 h g d hz : Calls Tryz.prog 22 #[SA.v y s.txg s.keep s.same, tr0.v, tr1.v] W (TDP W s tr0 tr1)))
  have IO := Lib.hid (fun W (y : SA) (h : SRd W y s) (hB : Below w.heap.size w W) g d => (treeDiff_any W y s tr0 tr1 h g d hz (LB.out.1.below hB) (LB.out.2.1.below hB) (LB.out.2.2.below hB) : Calls Tryz.prog 23 #[SA.v y s.txg s.keep s.same, tr0.v, tr1.v] W (TDP W s tr0 tr1)))
  have EQ := Lib.hid (fun W (y z : SA) (h : SRd W y s) (h' : SRd W z s) => eqStore_true W y z s h h')
  have MS := Lib.hid (fun base W (y : SA) (h : SOwn base W y s) (hb : y.nR ≤ 1048576 ∧ y.nA ≤ 1048576 ∧ y.nB ≤ 1048576 ∧ y.nG ≤ 1048576 ∧ y.nD ≤ 1048576) => markStore_any base W y s s.txg s.keep s.same h hb.1 hb.2.1 hb.2.2.1 hb.2.2.2.1 hb.2.2.2.2)
  have LN := Lib.hid (And.intro HX.out.lR (And.intro HX.out.lA HX.out.lB))
  have LG := Lib.hid HX.out.lG
  have LD := Lib.hid HX.out.lD
  unfold TDP at SO IO
  unfold MarkSt at MS
  generalize hPP : DiffG s tr0 tr1 = PP at *
  have HPP := Lib.hid hPP
  clear hPP
  clear h HX hM hT hE hz
  obtain ⟨⟨ra0, rb0, rs0, ru0, rl0⟩, dep0, many0⟩ := tr0
  obtain ⟨⟨ra1, rb1, rs1, ru1, rl1⟩, dep1, many1⟩ := tr1
  obtain ⟨R, nR, cR, A, nA, cA, B, nB, cB, G, nG, cG, D, nD, cD⟩ := x
  obtain ⟨rows, refs, last, txg, gone, keep, dead, same⟩ := s
  unfold SA.v Tr.v at *
  dsimp only at *
  have HBw := Lib.hid (below_alloc (below_alloc (below_alloc (Below.refl w.heap.size w) (.cells #[.slice R nR cR, .slice A nA cA, .slice B nB cB, .int .i64 txg, .slice G nG cG, .int .i64 keep, .slice D nD cD, .bool same] 28)) (.cells #[.int .i64 ra0, .int .i64 rb0, .int .i64 rs0, .int .i64 ru0, .int .i64 rl0, .int .i64 dep0, .int .i64 many0] 32)) (.cells #[.int .i64 ra1, .int .i64 rb1, .int .i64 rs1, .int .i64 ru1, .int .i64 rl1, .int .i64 dep1, .int .i64 many1] 32))
  have BB0 := ((box_new w #[.slice R nR cR, .slice A nA cA, .slice B nB cB, .int .i64 txg, .slice G nG cG, .int .i64 keep, .slice D nD cD, .bool same] 28).alloc (.cells #[.int .i64 ra0, .int .i64 rb0, .int .i64 rs0, .int .i64 ru0, .int .i64 rl0, .int .i64 dep0, .int .i64 many0] 32)).alloc (.cells #[.int .i64 ra1, .int .i64 rb1, .int .i64 rs1, .int .i64 ru1, .int .i64 rl1, .int .i64 dep1, .int .i64 many1] 32)
  replace BB0 := Lib.hid BB0
  have BB1 := (box_new (w.alloc (.cells #[.slice R nR cR, .slice A nA cA, .slice B nB cB, .int .i64 txg, .slice G nG cG, .int .i64 keep, .slice D nD cD, .bool same] 28)) #[.int .i64 ra0, .int .i64 rb0, .int .i64 rs0, .int .i64 ru0, .int .i64 rl0, .int .i64 dep0, .int .i64 many0] 32).alloc (.cells #[.int .i64 ra1, .int .i64 rb1, .int .i64 rs1, .int .i64 ru1, .int .i64 rl1, .int .i64 dep1, .int .i64 many1] 32)
  simp only [World.size_alloc] at BB1
  replace BB1 := Lib.hid BB1
  have BB2 := box_new ((w.alloc (.cells #[.slice R nR cR, .slice A nA cA, .slice B nB cB, .int .i64 txg, .slice G nG cG, .int .i64 keep, .slice D nD cD, .bool same] 28)).alloc (.cells #[.int .i64 ra0, .int .i64 rb0, .int .i64 rs0, .int .i64 ru0, .int .i64 rl0, .int .i64 dep0, .int .i64 many0] 32)) #[.int .i64 ra1, .int .i64 rb1, .int .i64 rs1, .int .i64 ru1, .int .i64 rl1, .int .i64 dep1, .int .i64 many1] 32
  simp only [World.size_alloc] at BB2
  replace BB2 := Lib.hid BB2
  go_enter Tryz.func5, Tryz.ntmps5
  go_wp2_with fail
  refine Calls.mono (SZ.out _ HBw.out) ?_
  rintro e w1 ⟨z, rfl, hzz, hB⟩
  have BX0 := Lib.hid (BB0.out.below hB)
  have BX1 := Lib.hid (BB1.out.below hB)
  have BX2 := Lib.hid (BB2.out.below hB)
  have HB1 := below_below HBw.out hB
  clear hB HBw SZ BB0 BB1 BB2
  by_cases hneg : z < 0
  · go_wp2_with fail
    go_ret
    exact ⟨rfl, HB1⟩
  have hbb := hzz (by omega)
  have T1 := Lib.hid (TS.out hbb)
  dsimp only at hbb
  have HGG := Lib.hid (show gone.length ≤ 1048576 by have := LG.out; have := hbb.2.2.2.1; omega)
  have HDD := Lib.hid (show dead.length ≤ 1048576 by have := LD.out; have := hbb.2.2.2.2; omega)
  have HNN := Lib.hid (show rows.length ≤ 1048576 ∧ refs.length ≤ 1048576 ∧ last.length ≤ 1048576 by have := LN.out; have := hbb.1; have := hbb.2.1; have := hbb.2.2.1; omega)
  clear hzz hbb TS LN
  have bx0 := BX0.out.cell
  have bl0 := BX0.out.lt
  have bx1 := BX1.out.cell
  have bl1 := BX1.out.lt
  have bx2 := BX2.out.cell
  have bl2 := BX2.out.lt
  go_wp2_with fail
  --H5
  go_region_held3 (fun w' => (w'.cell? ⟨w.heap.size, 0, none⟩ = some (.slice R nR cR) ∧ w'.cell? ⟨w.heap.size, 1, none⟩ = some (.slice A nA cA) ∧ w'.cell? ⟨w.heap.size, 2, none⟩ = some (.slice B nB cB) ∧ w'.cell? ⟨w.heap.size, 3, none⟩ = some (.int .i64 txg) ∧ w'.cell? ⟨w.heap.size, 4, none⟩ = some (.slice G nG cG) ∧ w'.cell? ⟨w.heap.size, 5, none⟩ = some (.int .i64 keep) ∧ w'.cell? ⟨w.heap.size, 6, none⟩ = some (.slice D nD cD) ∧ w'.cell? ⟨w.heap.size, 7, none⟩ = some (.bool same)) ∧ (w'.cell? ⟨w.heap.size + 1, 0, none⟩ = some (.int .i64 ra0) ∧ w'.cell? ⟨w.heap.size + 1, 1, none⟩ = some (.int .i64 rb0) ∧ w'.cell? ⟨w.heap.size + 1, 2, none⟩ = some (.int .i64 rs0) ∧ w'.cell? ⟨w.heap.size + 1, 3, none⟩ = some (.int .i64 ru0) ∧ w'.cell? ⟨w.heap.size + 1, 4, none⟩ = some (.int .i64 rl0) ∧ w'.cell? ⟨w.heap.size + 1, 5, none⟩ = some (.int .i64 dep0) ∧ w'.cell? ⟨w.heap.size + 1, 6, none⟩ = some (.int .i64 many0)) ∧ (w'.cell? ⟨w.heap.size + 1 + 1, 0, none⟩ = some (.int .i64 ra1) ∧ w'.cell? ⟨w.heap.size + 1 + 1, 1, none⟩ = some (.int .i64 rb1) ∧ w'.cell? ⟨w.heap.size + 1 + 1, 2, none⟩ = some (.int .i64 rs1) ∧ w'.cell? ⟨w.heap.size + 1 + 1, 3, none⟩ = some (.int .i64 ru1) ∧ w'.cell? ⟨w.heap.size + 1 + 1, 4, none⟩ = some (.int .i64 rl1) ∧ w'.cell? ⟨w.heap.size + 1 + 1, 5, none⟩ = some (.int .i64 dep1) ∧ w'.cell? ⟨w.heap.size + 1 + 1, 6, none⟩ = some (.int .i64 many1))) (first | exact ⟨st8 (BX0.out.below (by (repeat (first | assumption | exact Below.refl _ _ | refine below_alloc ?_ _ | refine Below.drew ?_ | refine below_drewN ?_ _ | refine below_below ?_ (by assumption))))), tree_cellsL (BX1.out.below (by (repeat (first | assumption | exact Below.refl _ _ | refine below_alloc ?_ _ | refine Below.drew ?_ | refine below_drewN ?_ _ | refine below_below ?_ (by assumption))))), tree_cellsL (BX2.out.below (by (repeat (first | assumption | exact Below.refl _ _ | refine below_alloc ?_ _ | refine Below.drew ?_ | refine below_drewN ?_ _ | refine below_below ?_ (by assumption)))))⟩)
    (first
      | (have _g := G3; go_at_call 22; clear _g; refine Calls.mono (SO.out _ ⟨R8, nR8, cR8, A8, nA8, cA8, B8, nB8, cB8, G8, nG8, cG8, D8, nD8, cD8⟩ (X2.out.below (by (repeat (first | assumption | exact Below.refl _ _ | refine below_alloc ?_ _ | refine Below.drew ?_ | refine below_drewN ?_ _ | refine below_below ?_ (by assumption))))) (by have := X2.out.lG; have := HGG.out; dsimp only at *; omega) (by have := X2.out.lD; have := HDD.out; dsimp only at *; omega)) ?_; rintro e v4 ⟨va, la, ba, rfl, hS4, hO4, hD4⟩; have HS4 := Lib.hid hS4; have O4 := Lib.hid hO4; clear hS4 hO4)
      | (have _g := G3p0; go_at_call 13; clear _g; refine Calls.mono (TT1.out _) ?_; rintro e v3_1 ⟨rfl, hD3_1⟩; have G3p1 := Lib.hid hD3_1; have G3 := Lib.hid hD3_1)
      | (go_at_call 13; refine Calls.mono (TT0.out _) ?_; rintro e v3_0 ⟨rfl, hD3_0⟩; have G3p0 := Lib.hid hD3_0)
      | (go_at_call 12; refine Calls.mono (T1.out _ (by refine below_below HB1 ?_; (repeat (first | assumption | exact Below.refl _ _ | refine below_alloc ?_ _ | refine Below.drew ?_ | refine below_drewN ?_ _ | refine below_below ?_ (by assumption))))) ?_; rintro e v2 ⟨⟨R8, nR8, cR8, A8, nA8, cA8, B8, nB8, cB8, G8, nG8, cG8, D8, nD8, cD8⟩, he, hr, hD2⟩; unfold SA.v at he; dsimp only at he; subst he; have X2 := Lib.hid hr.rd; clear hr))
  have HV := Lib.hid (show Below w1.heap.size w1 v4 from by (repeat (first | assumption | exact Below.refl _ _ | refine below_alloc ?_ _ | refine Below.drew ?_ | refine below_drewN ?_ _ | refine below_below ?_ (by assumption))))
  have BXn0 := Lib.hid (BX0.out.below HV.out)
  have BXn1 := Lib.hid (BX1.out.below HV.out)
  have BXn2 := Lib.hid (BX2.out.below HV.out)
  have HB1n := below_below HB1 HV.out
  clear bx0 bl0 BX0 bx1 bl1 BX1 bx2 bl2 BX2 hD2 hD4 hD3_0 G3p0 hD3_1 G3p1 G3 X2 HB1
  obtain ⟨w4, rfl⟩ : ∃ w4, w4 = v4 := ⟨v4, rfl⟩
  clear HV
  have YA := Lib.hid (fun k (hk : k ∈ exOf' va) => (own_in O4.out k hk).2)
  have bx0 := BXn0.out.cell
  have bl0 := BXn0.out.lt
  have bx1 := BXn1.out.cell
  have bl1 := BXn1.out.lt
  have bx2 := BXn2.out.cell
  have bl2 := BXn2.out.lt
  have hw4 := BXn2.out.lt
  go_wp2_with fail
  refine Calls.mono (T1.out _ HB1n) ?_
  rintro e w5 ⟨⟨R5, nR5, cR5, A5, nA5, cA5, B5, nB5, cB5, G5, nG5, cG5, D5, nD5, cD5⟩, he, hr, hB5⟩
  unfold SA.v at he
  dsimp only at he
  subst he
  have YX := Lib.hid (fun k (hk : k ∈ SA.ex ⟨R5, nR5, cR5, A5, nA5, cA5, B5, nB5, cB5, G5, nG5, cG5, D5, nD5, cD5⟩) => hr.ex_in k hk)
  have X5 := Lib.hid (hr.below (below_alloc (Below.refl w5.heap.size w5) (.cells #[.slice R5 nR5 cR5, .slice A5 nA5 cA5, .slice B5 nB5 cB5, .int .i64 txg, .slice G5 nG5 cG5, .int .i64 keep, .slice D5 nD5 cD5, .bool same] 38)))
  have O5 := Lib.hid (O4.out.below (below_alloc hB5 (.cells #[.slice R5 nR5 cR5, .slice A5 nA5 cA5, .slice B5 nB5 cB5, .int .i64 txg, .slice G5 nG5 cG5, .int .i64 keep, .slice D5 nD5 cD5, .bool same] 38)))
  have BZ := Lib.hid (box_new w5 #[.slice R5 nR5 cR5, .slice A5 nA5 cA5, .slice B5 nB5 cB5, .int .i64 txg, .slice G5 nG5 cG5, .int .i64 keep, .slice D5 nD5 cD5, .bool same] 38)
  have BV0 := Lib.hid ((BXn0.out.below hB5).alloc (.cells #[.slice R5 nR5 cR5, .slice A5 nA5 cA5, .slice B5 nB5 cB5, .int .i64 txg, .slice G5 nG5 cG5, .int .i64 keep, .slice D5 nD5 cD5, .bool same] 38))
  have BV1 := Lib.hid ((BXn1.out.below hB5).alloc (.cells #[.slice R5 nR5 cR5, .slice A5 nA5 cA5, .slice B5 nB5 cB5, .int .i64 txg, .slice G5 nG5 cG5, .int .i64 keep, .slice D5 nD5 cD5, .bool same] 38))
  have BV2 := Lib.hid ((BXn2.out.below hB5).alloc (.cells #[.slice R5 nR5 cR5, .slice A5 nA5 cA5, .slice B5 nB5 cB5, .int .i64 txg, .slice G5 nG5 cG5, .int .i64 keep, .slice D5 nD5 cD5, .bool same] 38))
  have HB6 := below_alloc (below_below HB1n hB5) (.cells #[.slice R5 nR5 cR5, .slice A5 nA5 cA5, .slice B5 nB5 cB5, .int .i64 txg, .slice G5 nG5 cG5, .int .i64 keep, .slice D5 nD5 cD5, .bool same] 38)
  have h45 := Below.size hB5
  clear hB5 hr HB1n O4 bx0 bl0 BXn0 bx1 bl1 BXn1 bx2 bl2 BXn2
  have hz5 : w5.heap.size < (w5.alloc (.cells #[.slice R5 nR5 cR5, .slice A5 nA5 cA5, .slice B5 nB5 cB5, .int .i64 txg, .slice G5 nG5 cG5, .int .i64 keep, .slice D5 nD5 cD5, .bool same] 38)).heap.size := by simp
  go_wp2_with fail
  generalize w5.alloc (.cells #[.slice R5 nR5 cR5, .slice A5 nA5 cA5, .slice B5 nB5 cB5, .int .i64 txg, .slice G5 nG5 cG5, .int .i64 keep, .slice D5 nD5 cD5, .bool same] 38) = W6 at *
  have HZ5 := Lib.hid hz5
  have bx0 := BV0.out.cell
  have bl0 := BV0.out.lt
  have bx1 := BV1.out.cell
  have bl1 := BV1.out.lt
  have bx2 := BV2.out.cell
  have bl2 := BV2.out.lt
  have bz := BZ.out.cell
  --H7
  go_region_held3 (fun w' => (w'.cell? ⟨w5.heap.size, 0, none⟩ = some (.slice R5 nR5 cR5) ∧ w'.cell? ⟨w5.heap.size, 1, none⟩ = some (.slice A5 nA5 cA5) ∧ w'.cell? ⟨w5.heap.size, 2, none⟩ = some (.slice B5 nB5 cB5) ∧ w'.cell? ⟨w5.heap.size, 3, none⟩ = some (.int .i64 txg) ∧ w'.cell? ⟨w5.heap.size, 4, none⟩ = some (.slice G5 nG5 cG5) ∧ w'.cell? ⟨w5.heap.size, 5, none⟩ = some (.int .i64 keep) ∧ w'.cell? ⟨w5.heap.size, 6, none⟩ = some (.slice D5 nD5 cD5) ∧ w'.cell? ⟨w5.heap.size, 7, none⟩ = some (.bool same)) ∧ (w'.cell? ⟨w.heap.size + 1, 0, none⟩ = some (.int .i64 ra0) ∧ w'.cell? ⟨w.heap.size + 1, 1, none⟩ = some (.int .i64 rb0) ∧ w'.cell? ⟨w.heap.size + 1, 2, none⟩ = some (.int .i64 rs0) ∧ w'.cell? ⟨w.heap.size + 1, 3, none⟩ = some (.int .i64 ru0) ∧ w'.cell? ⟨w.heap.size + 1, 4, none⟩ = some (.int .i64 rl0) ∧ w'.cell? ⟨w.heap.size + 1, 5, none⟩ = some (.int .i64 dep0) ∧ w'.cell? ⟨w.heap.size + 1, 6, none⟩ = some (.int .i64 many0)) ∧ (w'.cell? ⟨w.heap.size + 1 + 1, 0, none⟩ = some (.int .i64 ra1) ∧ w'.cell? ⟨w.heap.size + 1 + 1, 1, none⟩ = some (.int .i64 rb1) ∧ w'.cell? ⟨w.heap.size + 1 + 1, 2, none⟩ = some (.int .i64 rs1) ∧ w'.cell? ⟨w.heap.size + 1 + 1, 3, none⟩ = some (.int .i64 ru1) ∧ w'.cell? ⟨w.heap.size + 1 + 1, 4, none⟩ = some (.int .i64 rl1) ∧ w'.cell? ⟨w.heap.size + 1 + 1, 5, none⟩ = some (.int .i64 dep1) ∧ w'.cell? ⟨w.heap.size + 1 + 1, 6, none⟩ = some (.int .i64 many1))) (first | exact ⟨st8 (BZ.out.below (by (repeat (first | assumption | exact Below.refl _ _ | refine below_alloc ?_ _ | refine Below.drew ?_ | refine below_drewN ?_ _ | refine below_below ?_ (by assumption))))), tree_cellsL (BV1.out.below (by (repeat (first | assumption | exact Below.refl _ _ | refine below_alloc ?_ _ | refine Below.drew ?_ | refine below_drewN ?_ _ | refine below_below ?_ (by assumption))))), tree_cellsL (BV2.out.below (by (repeat (first | assumption | exact Below.refl _ _ | refine below_alloc ?_ _ | refine Below.drew ?_ | refine below_drewN ?_ _ | refine below_below ?_ (by assumption)))))⟩)
    (first
      | (have _g := G7p0; go_at_call 13; clear _g; refine Calls.mono (TT1.out _) ?_; rintro e w7_1 ⟨rfl, hB7_1⟩; have G7p1 := Lib.hid hB7_1; have G7 := Lib.hid hB7_1)
      | (go_at_call 13; refine Calls.mono (TT0.out _) ?_; rintro e w7_0 ⟨rfl, hB7_0⟩; have G7p0 := Lib.hid hB7_0)
      | (have _g := G7; go_at_call 23; clear _g; refine Calls.mono (IO.out _ ⟨R5, nR5, cR5, A5, nA5, cA5, B5, nB5, cB5, G5, nG5, cG5, D5, nD5, cD5⟩ (X5.out.rd.below (by (repeat (first | assumption | exact Below.refl _ _ | refine below_alloc ?_ _ | refine Below.drew ?_ | refine below_drewN ?_ _ | refine below_below ?_ (by assumption))))) (by refine below_below HB6 ?_; (repeat (first | assumption | exact Below.refl _ _ | refine below_alloc ?_ _ | refine Below.drew ?_ | refine below_drewN ?_ _ | refine below_below ?_ (by assumption)))) (by have := X5.out.rd.lG; have := HGG.out; dsimp only at *; omega) (by have := X5.out.rd.lD; have := HDD.out; dsimp only at *; omega)) ?_; rintro e w8 ⟨vb, lb, bb, rfl, hS8, hO8, hB8⟩; have HS8 := Lib.hid hS8; have O8 := Lib.hid (hO8.more (@Below.size W6.heap.size W6 _ (by (repeat (first | assumption | exact Below.refl _ _ | refine below_alloc ?_ _ | refine Below.drew ?_ | refine below_drewN ?_ _ | refine below_below ?_ (by assumption)))))); clear hS8 hO8))
  have H68 := Lib.hid (show Below W6.heap.size W6 w8 from by (repeat (first | assumption | exact Below.refl _ _ | refine below_alloc ?_ _ | refine Below.drew ?_ | refine below_drewN ?_ _ | refine below_below ?_ (by assumption))))
  have HB8 := below_below HB6 H68.out
  have BZ8 := Lib.hid (BZ.out.below H68.out)
  have X8 := Lib.hid (X5.out.below H68.out)
  have Z8 := Lib.hid (O5.out.below H68.out)
  have BU0 := Lib.hid (BV0.out.below H68.out)
  have BU1 := Lib.hid (BV1.out.below H68.out)
  have BU2 := Lib.hid (BV2.out.below H68.out)
  clear hz5 bz hB8 hB7_0 G7p0 hB7_1 G7p1 G7 bx0 bl0 BV0 bx1 bl1 BV1 bx2 bl2 BV2 BZ X5 O5 H68 HB6 SO
  obtain ⟨rfl, rfl⟩ := diffG_one (HPP.out ▸ HS4.out) (HPP.out ▸ HS8.out)
  have HL := Lib.hid (show la.length ≤ 1048576 from by have := diffG_len (HPP.out ▸ HS4.out); omega)
  have e1 : (ba != ba) = false := by simp
  have bz := BZ8.out.cell
  have bzl := BZ8.out.lt
  have bx0 := BU0.out.cell
  have bl0 := BU0.out.lt
  have bx1 := BU1.out.cell
  have bl1 := BU1.out.lt
  have bx2 := BU2.out.cell
  have bl2 := BU2.out.lt
  go_wp2_with fail
  --H8
  refine Calls.mono (eq_own _ _ _ _ _ _ O8.out Z8.out) ?_
  rintro e w9 ⟨rfl, hB⟩
  have BZ9 := Lib.hid (BZ8.out.below hB)
  have X9 := Lib.hid (X8.out.below hB)
  have Z9 := Lib.hid (Z8.out.below hB)
  have O9 := Lib.hid (O8.out.below hB)
  have BT0 := Lib.hid (BU0.out.below hB)
  have BT1 := Lib.hid (BU1.out.below hB)
  have BT2 := Lib.hid (BU2.out.below hB)
  have HB9 := below_below HB8 hB
  clear hB HB8 BZ8 X8 Z8 O8 bx0 bl0 BU0 bx1 bl1 BU1 bx2 bl2 BU2
  clear bz bzl
  have bx0 := BT0.out.cell
  have bl0 := BT0.out.lt
  have bx1 := BT1.out.cell
  have bl1 := BT1.out.lt
  have bx2 := BT2.out.cell
  have bl2 := BT2.out.lt
  have bz := BZ9.out.cell
  have bzl := BZ9.out.lt
  go_wp2_with fail
  --H10
  go_region_held3 (fun w' => (w'.cell? ⟨w5.heap.size, 0, none⟩ = some (.slice R5 nR5 cR5) ∧ w'.cell? ⟨w5.heap.size, 1, none⟩ = some (.slice A5 nA5 cA5) ∧ w'.cell? ⟨w5.heap.size, 2, none⟩ = some (.slice B5 nB5 cB5) ∧ w'.cell? ⟨w5.heap.size, 3, none⟩ = some (.int .i64 txg) ∧ w'.cell? ⟨w5.heap.size, 4, none⟩ = some (.slice G5 nG5 cG5) ∧ w'.cell? ⟨w5.heap.size, 5, none⟩ = some (.int .i64 keep) ∧ w'.cell? ⟨w5.heap.size, 6, none⟩ = some (.slice D5 nD5 cD5) ∧ w'.cell? ⟨w5.heap.size, 7, none⟩ = some (.bool same)) ∧ (w'.cell? ⟨w.heap.size, 0, none⟩ = some (.slice R nR cR) ∧ w'.cell? ⟨w.heap.size, 1, none⟩ = some (.slice A nA cA) ∧ w'.cell? ⟨w.heap.size, 2, none⟩ = some (.slice B nB cB) ∧ w'.cell? ⟨w.heap.size, 3, none⟩ = some (.int .i64 txg) ∧ w'.cell? ⟨w.heap.size, 4, none⟩ = some (.slice G nG cG) ∧ w'.cell? ⟨w.heap.size, 5, none⟩ = some (.int .i64 keep) ∧ w'.cell? ⟨w.heap.size, 6, none⟩ = some (.slice D nD cD) ∧ w'.cell? ⟨w.heap.size, 7, none⟩ = some (.bool same))) (first | exact ⟨st8 (BZ9.out.below (by (repeat (first | assumption | exact Below.refl _ _ | refine below_alloc ?_ _ | refine Below.drew ?_ | refine below_drewN ?_ _ | refine below_below ?_ (by assumption))))), st8 (BT0.out.below (by (repeat (first | assumption | exact Below.refl _ _ | refine below_alloc ?_ _ | refine Below.drew ?_ | refine below_drewN ?_ _ | refine below_below ?_ (by assumption)))))⟩)
    (first
      | (go_at_call 12; refine Calls.mono (T1.out _ (by refine below_below HB9 ?_; (repeat (first | assumption | exact Below.refl _ _ | refine below_alloc ?_ _ | refine Below.drew ?_ | refine below_drewN ?_ _ | refine below_below ?_ (by assumption))))) ?_; rintro e wb ⟨⟨R9, nR9, cR9, A9, nA9, cA9, B9, nB9, cB9, G9, nG9, cG9, D9, nD9, cD9⟩, he, hr, hBb⟩; unfold SA.v at he; dsimp only at he; subst he; have Xb := Lib.hid hr.rd; clear hr)
      | (go_at_call 15; refine Calls.mono (EQ.out _ ⟨R5, nR5, cR5, A5, nA5, cA5, B5, nB5, cB5, G5, nG5, cG5, D5, nD5, cD5⟩ ⟨R9, nR9, cR9, A9, nA9, cA9, B9, nB9, cB9, G9, nG9, cG9, D9, nD9, cD9⟩ (X9.out.rd.below (by (repeat (first | assumption | exact Below.refl _ _ | refine below_alloc ?_ _ | refine Below.drew ?_ | refine below_drewN ?_ _ | refine below_below ?_ (by assumption))))) (Xb.out.below (by (repeat (first | assumption | exact Below.refl _ _ | refine below_alloc ?_ _ | refine Below.drew ?_ | refine below_drewN ?_ _ | refine below_below ?_ (by assumption)))))) ?_; rintro e wa ⟨rfl, hBa⟩))
  have hB : Below w9.heap.size w9 wa := by (repeat (first | assumption | exact Below.refl _ _ | refine below_alloc ?_ _ | refine Below.drew ?_ | refine below_drewN ?_ _ | refine below_below ?_ (by assumption)))
  clear hBb hBa Xb
  have BZa := Lib.hid (BZ9.out.below hB)
  have Xa := Lib.hid (X9.out.below hB)
  have Za := Lib.hid (Z9.out.below hB)
  have Oa := Lib.hid (O9.out.below hB)
  have BS0 := Lib.hid (BT0.out.below hB)
  have BS1 := Lib.hid (BT1.out.below hB)
  have BS2 := Lib.hid (BT2.out.below hB)
  have HBa := below_below HB9 hB
  clear hB HB9 BZ9 X9 Z9 O9 bx0 bl0 BT0 bx1 bl1 BT1 bx2 bl2 BT2
  clear bz bzl EQ
  have bx0 := BS0.out.cell
  have bl0 := BS0.out.lt
  have bx1 := BS1.out.cell
  have bl1 := BS1.out.lt
  have bx2 := BS2.out.cell
  have bl2 := BS2.out.lt
  have bz := BZa.out.cell
  have bzl := BZa.out.lt
  have hsa := Xa.out.rd
  have hlR := hsa.lR
  have hlA := hsa.lA
  have hlB := hsa.lB
  have hlG := hsa.lG
  have hlD := hsa.lD
  clear hsa
  dsimp only at hlR hlA hlB hlG hlD
  have MT := Lib.hid (MS.out _ _ ⟨R5, nR5, cR5, A5, nA5, cA5, B5, nB5, cB5, G5, nG5, cG5, D5, nD5, cD5⟩ Xa.out ⟨by have := HNN.out; dsimp only; omega, by have := HNN.out; dsimp only; omega, by have := HNN.out; dsimp only; omega, by have := HGG.out; dsimp only; omega, by have := HDD.out; dsimp only; omega⟩)
  have hmk : ¬ ((markSum ⟨R5, nR5, cR5, A5, nA5, cA5, B5, nB5, cB5, G5, nG5, cG5, D5, nD5, cD5⟩ : Nat) : Int) < 0 := by omega
  generalize hmm : markSum ⟨R5, nR5, cR5, A5, nA5, cA5, B5, nB5, cB5, G5, nG5, cG5, D5, nD5, cD5⟩ = mk at *
  clear hmm hlR hlA hlB hlG hlD MS
  go_wp2_with fail
  --H13
  refine Calls.mono MT.out ?_
  rintro e wc ⟨rfl, _, hK⟩
  clear bz bzl bx0 bl0 bx1 bl1 bx2 bl2
  have hex : ∀ k ∈ SA.ex ⟨R5, nR5, cR5, A5, nA5, cA5, B5, nB5, cB5, G5, nG5, cG5, D5, nD5, cD5⟩, w4.heap.size ≤ k ∧ k < w5.heap.size := YX.out
  have BR0 := Lib.hid (BS0.out.kp hK (fun hm => by have := hex _ hm; omega))
  have BR1 := Lib.hid (BS1.out.kp hK (fun hm => by have := hex _ hm; omega))
  have BR2 := Lib.hid (BS2.out.kp hK (fun hm => by have := hex _ hm; omega))
  have Zc := Lib.hid (Za.out.kp hK (fun k hm e => by have := YA.out k (mem_exOf' e); have := hex k hm; omega))
  have Oc := Lib.hid (Oa.out.kp hK (fun k hm e => by have h1 := (own_in Oa.out k (mem_exOf' e)).1; have h2 := hex k hm; have h3 := HZ5.out; omega))
  have HBc := below_kp HBa hK (fun k hm => by have := hex k hm; omega)
  clear hK hex MT Xa Za Oa HBa BZa BS0 BS1 BS2
  have bx0 := BR0.out.cell
  have bl0 := BR0.out.lt
  have bx1 := BR1.out.cell
  have bl1 := BR1.out.lt
  have bx2 := BR2.out.cell
  have bl2 := BR2.out.lt
  go_wp2_with fail
  --H14
  refine Calls.mono (eq_own _ _ _ _ _ _ Oc.out Zc.out) ?_
  rintro e wd ⟨rfl, hB⟩
  have Zd := Lib.hid (Zc.out.below hB)
  have Od := Lib.hid (Oc.out.below hB)
  have BQ0 := Lib.hid (BR0.out.below hB)
  have BQ1 := Lib.hid (BR1.out.below hB)
  have BQ2 := Lib.hid (BR2.out.below hB)
  have HBd := below_below HBc hB
  clear hB HBc Zc Oc bx0 bl0 BR0 bx1 bl1 BR1 bx2 bl2 BR2
  have bx0 := BQ0.out.cell
  have bl0 := BQ0.out.lt
  have bx1 := BQ1.out.cell
  have bl1 := BQ1.out.lt
  have bx2 := BQ2.out.cell
  have bl2 := BQ2.out.lt
  have KM := Lib.hid (mark_own wd _ vb la HL.out Od.out)
  have KH := Lib.hid (fun W => held_own W W6.heap.size la.length vb HL.out)
  have hq : ¬ (((1 + la.length) : Nat) : Int) < 0 := by omega
  generalize (1 + la.length) = qq at *
  have eqq : ((qq : Int) != (qq : Int)) = false := by simp
  go_wp2_with fail
  --H17
  refine Calls.mono KM.out ?_
  rintro e we ⟨rfl, hO, hK⟩
  have Oe := Lib.hid hO
  have hex : ∀ k ∈ exOf' vb, w5.heap.size < k := fun k hk => by have h1 := (own_in Od.out k hk).1; have h3 := HZ5.out; omega
  have BP0 := Lib.hid (BQ0.out.kp hK (fun hm => by have := hex _ hm; omega))
  have BP1 := Lib.hid (BQ1.out.kp hK (fun hm => by have := hex _ hm; omega))
  have BP2 := Lib.hid (BQ2.out.kp hK (fun hm => by have := hex _ hm; omega))
  have Ze := Lib.hid (Zd.out.kp hK (fun k hm e => by have := YA.out k (mem_exOf' e); have := hex k hm; omega))
  have HBe := below_kp HBd hK (fun k hm => by have := hex k hm; omega)
  clear hO hK hex Od Zd HBd KM BQ0 bx0 bl0 BQ1 bx1 bl1 BQ2 bx2 bl2
  have bx0 := BP0.out.cell
  have bl0 := BP0.out.lt
  have bx1 := BP1.out.cell
  have bl1 := BP1.out.lt
  have bx2 := BP2.out.cell
  have bl2 := BP2.out.lt
  go_wp2_with fail
  --H19
  refine Calls.mono (KH.out _ Oe.out) ?_
  rintro e wf ⟨rfl, rfl⟩
  clear bx0 bl0 bx1 bl1 bx2 bl2
  have bx0 := BP0.out.cell
  have bl0 := BP0.out.lt
  have bx1 := BP1.out.cell
  have bl1 := BP1.out.lt
  have bx2 := BP2.out.cell
  have bl2 := BP2.out.lt
  go_wp2_with fail
  --H24
  go_region_held3 (fun w' => (w'.cell? ⟨w.heap.size, 0, none⟩ = some (.slice R nR cR) ∧ w'.cell? ⟨w.heap.size, 1, none⟩ = some (.slice A nA cA) ∧ w'.cell? ⟨w.heap.size, 2, none⟩ = some (.slice B nB cB) ∧ w'.cell? ⟨w.heap.size, 3, none⟩ = some (.int .i64 txg) ∧ w'.cell? ⟨w.heap.size, 4, none⟩ = some (.slice G nG cG) ∧ w'.cell? ⟨w.heap.size, 5, none⟩ = some (.int .i64 keep) ∧ w'.cell? ⟨w.heap.size, 6, none⟩ = some (.slice D nD cD) ∧ w'.cell? ⟨w.heap.size, 7, none⟩ = some (.bool same)) ∧ (w'.cell? ⟨w.heap.size + 1, 0, none⟩ = some (.int .i64 ra0) ∧ w'.cell? ⟨w.heap.size + 1, 1, none⟩ = some (.int .i64 rb0) ∧ w'.cell? ⟨w.heap.size + 1, 2, none⟩ = some (.int .i64 rs0) ∧ w'.cell? ⟨w.heap.size + 1, 3, none⟩ = some (.int .i64 ru0) ∧ w'.cell? ⟨w.heap.size + 1, 4, none⟩ = some (.int .i64 rl0) ∧ w'.cell? ⟨w.heap.size + 1, 5, none⟩ = some (.int .i64 dep0) ∧ w'.cell? ⟨w.heap.size + 1, 6, none⟩ = some (.int .i64 many0)) ∧ (w'.cell? ⟨w.heap.size + 1 + 1, 0, none⟩ = some (.int .i64 ra1) ∧ w'.cell? ⟨w.heap.size + 1 + 1, 1, none⟩ = some (.int .i64 rb1) ∧ w'.cell? ⟨w.heap.size + 1 + 1, 2, none⟩ = some (.int .i64 rs1) ∧ w'.cell? ⟨w.heap.size + 1 + 1, 3, none⟩ = some (.int .i64 ru1) ∧ w'.cell? ⟨w.heap.size + 1 + 1, 4, none⟩ = some (.int .i64 rl1) ∧ w'.cell? ⟨w.heap.size + 1 + 1, 5, none⟩ = some (.int .i64 dep1) ∧ w'.cell? ⟨w.heap.size + 1 + 1, 6, none⟩ = some (.int .i64 many1))) (first | exact ⟨st8 (BP0.out.below (by (repeat (first | assumption | exact Below.refl _ _ | refine below_alloc ?_ _ | refine Below.drew ?_ | refine below_drewN ?_ _ | refine below_below ?_ (by assumption))))), tree_cellsL (BP1.out.below (by (repeat (first | assumption | exact Below.refl _ _ | refine below_alloc ?_ _ | refine Below.drew ?_ | refine below_drewN ?_ _ | refine below_below ?_ (by assumption))))), tree_cellsL (BP2.out.below (by (repeat (first | assumption | exact Below.refl _ _ | refine below_alloc ?_ _ | refine Below.drew ?_ | refine below_drewN ?_ _ | refine below_below ?_ (by assumption)))))⟩)
    (first
      | (have _g := G3; go_at_call 23; clear _g; refine Calls.mono (IO.out _ ⟨R7, nR7, cR7, A7, nA7, cA7, B7, nB7, cB7, G7, nG7, cG7, D7, nD7, cD7⟩ (X2.out.below (by (repeat (first | assumption | exact Below.refl _ _ | refine below_alloc ?_ _ | refine Below.drew ?_ | refine below_drewN ?_ _ | refine below_below ?_ (by assumption))))) (by refine below_below HBe ?_; (repeat (first | assumption | exact Below.refl _ _ | refine below_alloc ?_ _ | refine Below.drew ?_ | refine below_drewN ?_ _ | refine below_below ?_ (by assumption)))) (by have := X2.out.lG; have := HGG.out; dsimp only at *; omega) (by have := X2.out.lD; have := HDD.out; dsimp only at *; omega)) ?_; rintro e v4 ⟨vc, lc, bc, rfl, hS4, hO4, hD4⟩; have HS7 := Lib.hid hS4; have O7 := Lib.hid hO4; clear hS4 hO4)
      | (have _g := G3p0; go_at_call 13; clear _g; refine Calls.mono (TT1.out _) ?_; rintro e v3_1 ⟨rfl, hD3_1⟩; have G3p1 := Lib.hid hD3_1; have G3 := Lib.hid hD3_1)
      | (go_at_call 13; refine Calls.mono (TT0.out _) ?_; rintro e v3_0 ⟨rfl, hD3_0⟩; have G3p0 := Lib.hid hD3_0)
      | (go_at_call 12; refine Calls.mono (T1.out _ (by refine below_below HBe ?_; (repeat (first | assumption | exact Below.refl _ _ | refine below_alloc ?_ _ | refine Below.drew ?_ | refine below_drewN ?_ _ | refine below_below ?_ (by assumption))))) ?_; rintro e v2 ⟨⟨R7, nR7, cR7, A7, nA7, cA7, B7, nB7, cB7, G7, nG7, cG7, D7, nD7, cD7⟩, he, hr, hD2⟩; unfold SA.v at he; dsimp only at he; subst he; have X2 := Lib.hid hr.rd; clear hr))
  have HV := Lib.hid (show Below we.heap.size we v4 from by (repeat (first | assumption | exact Below.refl _ _ | refine below_alloc ?_ _ | refine Below.drew ?_ | refine below_drewN ?_ _ | refine below_below ?_ (by assumption))))
  have BPn0 := Lib.hid (BP0.out.below HV.out)
  have BPn1 := Lib.hid (BP1.out.below HV.out)
  have BPn2 := Lib.hid (BP2.out.below HV.out)
  have HBen := below_below HBe HV.out
  clear bx0 bl0 BP0 bx1 bl1 BP1 bx2 bl2 BP2 hD2 hD4 hD3_0 G3p0 hD3_1 G3p1 G3 X2 HBe
  obtain ⟨wg, rfl⟩ : ∃ wg, wg = v4 := ⟨v4, rfl⟩
  obtain ⟨rfl, rfl⟩ := diffG_one (HPP.out ▸ HS4.out) (HPP.out ▸ HS7.out)
  have Zg := Lib.hid (Ze.out.below HV.out)
  have Og := Lib.hid (Oe.out.below HV.out)
  clear HV Ze Oe BPn0 BPn1 BPn2
  go_wp2_with fail
  --H25
  refine Calls.mono (eq_own _ _ _ _ _ _ O7.out Zg.out) ?_
  rintro e wh ⟨rfl, hB⟩
  have Oh := Lib.hid (Og.out.below hB)
  have HBh := below_below HBen hB
  clear hB HBen Og Zg O7
  go_wp2_with fail
  --H28
  refine Calls.mono (KH.out _ Oh.out) ?_
  rintro e wi ⟨rfl, rfl⟩
  go_wp2_with fail
  go_ret
  exact ⟨rfl, HBh⟩

theorem laid_met (os : Os) : laidMet Tryz.prog Rows.fnExactTreeDiffRow.laid ((World.laidAll Tryz.prog os Rows.fnExactTreeDiffRow.laid).forCall (fun _ _ => 0) ⟨#[], #[.agg #[.slice none 0 0, .slice none 0 0, .slice none 0 0, .int .i64 0, .slice none 0 0, .int .i64 0, .slice none 0 0, .bool false], .agg #[.int .i64 0, .int .i64 0, .int .i64 0, .int .i64 0, .int .i64 0, .int .i64 0, .int .i64 0], .agg #[.int .i64 0, .int .i64 0, .int .i64 0, .int .i64 0, .int .i64 0, .int .i64 0, .int .i64 0]], []⟩).memory := laidMet_laidAll _ (by kernel_rfl) (by kernel_rfl)
theorem reads (os : Os) {H : Type} (enc : TypeId × Value → H) : ∃ places, DataW.whole enc Tryz.prog ((World.laidAll Tryz.prog os Rows.fnExactTreeDiffRow.laid).forCall (fun _ _ => 0) ⟨#[], #[.agg #[.slice none 0 0, .slice none 0 0, .slice none 0 0, .int .i64 0, .slice none 0 0, .int .i64 0, .slice none 0 0, .bool false], .agg #[.int .i64 0, .int .i64 0, .int .i64 0, .int .i64 0, .int .i64 0, .int .i64 0, .int .i64 0], .agg #[.int .i64 0, .int .i64 0, .int .i64 0, .int .i64 0, .int .i64 0, .int .i64 0, .int .i64 0]], []⟩).memory Tryz.f5.params.toList Rows.fnExactTreeDiffSpec.vars false (#[.agg #[.slice none 0 0, .slice none 0 0, .slice none 0 0, .int .i64 0, .slice none 0 0, .int .i64 0, .slice none 0 0, .bool false], .agg #[.int .i64 0, .int .i64 0, .int .i64 0, .int .i64 0, .int .i64 0, .int .i64 0, .int .i64 0], .agg #[.int .i64 0, .int .i64 0, .int .i64 0, .int .i64 0, .int .i64 0, .int .i64 0, .int .i64 0]] : Array Value).toList 8 = some ([.agg [.nil, .agg [.nil, .nil], .lit (.int .i64 0), .nil, .lit (.int .i64 0), .nil, .lit (.bool false)], .agg [.agg [.lit (.int .i64 0), .lit (.int .i64 0), .lit (.int .i64 0), .lit (.int .i64 0), .lit (.int .i64 0)], .lit (.int .i64 0), .lit (.int .i64 0)], .agg [.agg [.lit (.int .i64 0), .lit (.int .i64 0), .lit (.int .i64 0), .lit (.int .i64 0), .lit (.int .i64 0)], .lit (.int .i64 0), .lit (.int .i64 0)]], [], places) :=
  ⟨[], by kernel_rfl⟩

set_option maxRecDepth 100000 in
theorem lifted (os : Os) (started : os.Started) (H : Type) (enc : TypeId × Value → H) (F : Stop.Interp) :
    ReturnsInHanded {} Tryz.checked os 5 .any ((OpenSpec.ofChange Rows.fnExactTreeDiffSpec).preRow enc Tryz.prog Tryz.f5 Rows.fnExactTreeDiffRow.domain false Rows.fnExactTreeDiffRow.laid) (((OpenSpec.ofChange Rows.fnExactTreeDiffSpec).at F).post enc Tryz.prog Tryz.f5 false true false false) := by
  obtain ⟨places, hx⟩ := reads os enc
  refine returnsInHanded_of_row (C := Tryz.checked) (s := OpenSpec.ofChange Rows.fnExactTreeDiffSpec) own started (by kernel_rfl) Tryz.func5
    (witness_row_at (enc := enc) (C := Tryz.checked) false (World.laidAll Tryz.prog os Rows.fnExactTreeDiffRow.laid) #[.agg #[.slice none 0 0, .slice none 0 0, .slice none 0 0, .int .i64 0, .slice none 0 0, .int .i64 0, .slice none 0 0, .bool false], .agg #[.int .i64 0, .int .i64 0, .int .i64 0, .int .i64 0, .int .i64 0, .int .i64 0, .int .i64 0], .agg #[.int .i64 0, .int .i64 0, .int .i64 0, .int .i64 0, .int .i64 0, .int .i64 0, .int .i64 0]] (World.laidAll_os _ _ _) (by kernel_rfl) (by kernel_rfl) (by kernel_rfl)
      (OpenSpec.preRow_of_cond 8 hx (by kernel_rfl) (fun k hk => by cases hk) (by kernel_rfl) (laid_met os))) ?_
  intro W base args ds gs before hval0 hW _ _ _ hL hsh _
  have hval : ∀ (j : Nat) t v, Tryz.f5.params[j]? = some t → args[j]? = some v → Value.okWide Tryz.prog W .any base t v := hval0
  have hW' := hW
  obtain ⟨p, q, hA, hV, rfl, hfz, hnd⟩ := hW
  obtain ⟨rfl, rfl⟩ := trodVars_none hV
  have hA0 : DataW.TrodAll enc Tryz.prog W 0 (fun _ => true) true Tryz.f5.params.toList args.toList ds p := hA
  rw [Tryz.params5] at hA0 hval
  obtain ⟨v0, vs0, d0, ds0, p0, q0, hargs, rfl, rfl, h0, r0⟩ := trodAll_cons hA0
  obtain ⟨v1, vs1, d1, ds1, p1, q1, rfl, rfl, rfl, h1, r1⟩ := trodAll_cons r0
  obtain ⟨v2, vs2, d2, ds2, p2, q2, rfl, rfl, rfl, h2, r2⟩ := trodAll_cons r1
  obtain ⟨rfl, rfl, rfl⟩ := trodAll_nil r2
  obtain rfl : args = #[v0, v1, v2] := by cases args; simp_all
  obtain ⟨sx, ss, rfl, sr, sz⟩ := open_store (hval 0 28 v0 rfl rfl) h0
  obtain ⟨t0, rfl⟩ := open_tree (hval 1 32 v1 rfl rfl) h1
  obtain ⟨t1, rfl⟩ := open_tree (hval 2 32 v2 rfl rfl) h2
  refine (walk W sx ss t0 t1 sr sz (maxAt_of hsh) (tenAt_of hL.tail.tail) (errAt_of hL.tail.tail.tail.tail.tail)).mono fun e W' ⟨he, bel⟩ => ?_
  subst he
  exact ⟨_, rfl, law_post (s := Rows.fnExactTreeDiffSpec) rfl (by kernel_rfl) (params_ok (by kernel_rfl)) hW' rfl rfl rfl bel⟩

theorem said : Rows.FnExactTreeDiffSaid :=
  OpenClaim.holds_of_cond 5 Tryz.f5 rfl rfl rfl rfl rfl rfl rfl ⟨rfl, rfl, rfl, rfl, rfl⟩ rfl rfl rfl rfl rfl (by kernel_rfl) Tryz.func5 (by kernel_rfl)
    (of_decide_eq_true (by kernel_rfl)) (by unfold Func.isWrapper; first | (rw [if_pos (by decide +kernel)]; kernel_rfl) | (rw [if_neg (by decide +kernel)]; exact ⟨rfl, rfl⟩))
    (fun os started H enc _ F => by rw [OpenClaim.pre_eq_preRow]; exact lifted os started H enc F)

theorem plain (f : FuncId) (fn : Func) (hf : Tryz.pinned.checked.prog.funcNamed "loop.example/poolfiles/laws.FnExactTreeDiff" = some f) (hfn : Tryz.pinned.checked.prog.funcs[f]? = some fn) :
    true = Tryz.pinned.checked.prog.looks [] ∧ ∀ (j : Nat) t, fn.params[j]? = some t → Tryz.pinned.checked.prog.wantsStandIn t = false := by
  obtain rfl : f = 5 := Option.some.inj ((show Tryz.prog.funcNamed "loop.example/poolfiles/laws.FnExactTreeDiff" = some 5 by kernel_rfl).symm.trans hf) |>.symm
  obtain rfl : fn = Tryz.f5 := (Option.some.inj (Tryz.func5.symm.trans hfn)).symm
  refine ⟨by kernel_rfl, fun j t ht => ?_⟩
  have hall : (Tryz.f5.params.toList.all fun t => !(Tryz.prog.wantsStandIn t)) = true := by kernel_rfl
  have := List.all_eq_true.1 hall t (Array.mem_toList_iff.2 (Array.mem_of_getElem? ht))
  show Tryz.prog.wantsStandIn t = false
  simpa using this

theorem proved : Rows.FnExactTreeDiffCardSaid :=
  Claim7.holds_tied_plain_at .later [] _ _ _ _ said (fun _ h => by cases h) (by kernel_rfl) (fun _ h => by cases h) fnExactTreeDiff_row_tie rfl ⟨rfl, rfl⟩ (by kernel_rfl) rfl plain (by kernel_rfl)

end Go.Proofs.YtafadedacbjioaaGreatDoor.lawExactTreeDiff
