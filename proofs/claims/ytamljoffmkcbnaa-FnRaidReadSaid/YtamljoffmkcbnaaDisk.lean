/- Disks: as they lie in memory; validity, both texts. -/
import Derived.Test.YtamljoffmkcbnaaBox
import Derived.Test.YtamljoffmkcbnaaPtr
import Derived.Test.YtamljoffmkcbnaaPtrS
namespace Go.Proofs.Ytamljoffmkcbnaa
open Go.RowKit
set_option maxRecDepth 100000
set_option linter.unusedVariables false
set_option linter.unusedSimpArgs false

structure Wt where
  at_ : Int
  text : ByteArray
def Wt.v (x : Wt) : Value := .agg #[.int .i64 x.at_, .string x.text]
def encW (x : Wt) : Nat → Value
  | 0 => .int .i64 x.at_
  | _ => .string x.text
structure Dk where
  cells : List ByteArray
  waits : List Wt
  gone : Bool
/-- Where a disk's slices lie. -/
structure DA where
  C : Option Addr
  nC : Nat
  cC : Nat
  W : Option Addr
  nW : Nat
  cW : Nat
  g : Bool
def DA.v (x : DA) : Value := .agg #[.slice x.C x.nC x.cC, .slice x.W x.nW x.cW, .bool x.g]
def encD (x : DA) : Nat → Value
  | 0 => .slice x.C x.nC x.cC
  | 1 => .slice x.W x.nW x.cW
  | _ => .bool x.g
structure DRd (w : World) (x : DA) (d : Dk) : Prop where
  cells : RdT encS 1 w x.C d.cells
  waits : RdT encW 2 w x.W d.waits
  lC : d.cells.length = x.nC
  lW : d.waits.length = x.nW
  hC : x.nC ≤ x.cC
  hW : x.nW ≤ x.cW
  mC : x.cC ≤ 9223372036854775807
  mW : x.cW ≤ 9223372036854775807
  gn : d.gone = x.g
  zC : ∀ s ∈ d.cells, s.size ≤ 9223372036854775807
  zW : ∀ x ∈ d.waits, x.text.size ≤ 9223372036854775807
theorem DRd.below {w w' : World} {x : DA} {d : Dk} (h : DRd w x d) (hb : Below w.heap.size w w') : DRd w' x d := { h with cells := h.cells.below hb, waits := h.waits.below hb }
/-- The disks of a pool. -/
structure RRd (w : World) (A : Option Addr) (c : Nat) (xs : List DA) (ds : List Dk) : Prop where
  rows : RdT encD 3 w A xs
  len : ds.length = xs.length
  hc : xs.length ≤ c
  mc : c ≤ 9223372036854775807
  each : ∀ (i : Nat) (x : DA), xs[i]? = some x → ∃ d, ds[i]? = some d ∧ DRd w x d
theorem RRd.below {w w' : World} {A : Option Addr} {c : Nat} {xs : List DA} {ds : List Dk} (h : RRd w A c xs ds) (hb : Below w.heap.size w w') : RRd w' A c xs ds :=
  { h with rows := h.rows.below hb, each := fun i x hx => by obtain ⟨d, h1, h2⟩ := h.each i x hx; exact ⟨d, h1, h2.below hb⟩ }

theorem RdT.str1 {w : World} {A : Option Addr} {xs : List ByteArray} {k : Nat} (h : RdT encS 1 w A xs) (hk : k < xs.length) :
    ∃ b off s, A = some ⟨b, off, none⟩ ∧ b < w.heap.size ∧ xs[k]? = some s ∧ w.cell? ⟨b, off + k, none⟩ = some (.string s) := by
  obtain ⟨b, off, rfl, hb, hc⟩ := h (by omega)
  have he : xs[k]? = some xs[k] := List.getElem?_eq_getElem hk
  have c := hc k _ he 0 (by omega)
  simp only [Nat.mul_one, Nat.add_zero, encS] at c
  exact ⟨b, off, xs[k], rfl, hb, he, c⟩
theorem RdT.wait {w : World} {A : Option Addr} {xs : List Wt} {k : Nat} (h : RdT encW 2 w A xs) (hk : k < xs.length) :
    ∃ b off z s, A = some ⟨b, off, none⟩ ∧ b < w.heap.size ∧ xs[k]? = some ⟨z, s⟩ ∧ w.cell? ⟨b, off + k * 2, none⟩ = some (.int .i64 z) ∧ w.cell? ⟨b, off + k * 2 + 1, none⟩ = some (.string s) := by
  obtain ⟨b, off, rfl, hb, hc⟩ := h (by omega)
  have he : xs[k]? = some xs[k] := List.getElem?_eq_getElem hk
  exact ⟨b, off, xs[k].at_, xs[k].text, rfl, hb, he, hc k _ he 0 (by omega), hc k _ he 1 (by omega)⟩
theorem RdT.disk {w : World} {A : Option Addr} {xs : List DA} {k : Nat} (h : RdT encD 3 w A xs) (hk : k < xs.length) :
    ∃ b off x, A = some ⟨b, off, none⟩ ∧ b < w.heap.size ∧ xs[k]? = some x ∧ w.cell? ⟨b, off + k * 3, none⟩ = some (.slice x.C x.nC x.cC) ∧ w.cell? ⟨b, off + k * 3 + 1, none⟩ = some (.slice x.W x.nW x.cW) ∧ w.cell? ⟨b, off + k * 3 + 2, none⟩ = some (.bool x.g) := by
  obtain ⟨b, off, rfl, hb, hc⟩ := h (by omega)
  have he : xs[k]? = some xs[k] := List.getElem?_eq_getElem hk
  exact ⟨b, off, xs[k], rfl, hb, he, hc k _ he 0 (by omega), hc k _ he 1 (by omega), hc k _ he 2 (by omega)⟩

def cellB (g : Bool) (s : ByteArray) : Bool := decide (s.size ≤ 200) && !(g && !s.toList.isEmpty)
def waitB (x : Wt) : Bool := inB x.at_ 0 63 && decide (x.text.size ≤ 200)
def diskB (d : Dk) : Bool := d.cells.length == 64 && (decide (d.waits.length ≤ 120) && (d.cells.all (cellB d.gone) && (!(d.gone && decide (0 < d.waits.length)) && d.waits.all waitB)))
def raidB (ds : List Dk) : Bool := ds.length == 3 && ds.all diskB
theorem diskB_len {d : Dk} (h : ¬ d.cells.length = 64) : diskB d = false := by simp [diskB, h]
theorem diskB_long {d : Dk} (h : ¬ d.waits.length ≤ 120) : diskB d = false := by simp [diskB, h]
theorem diskB_cell {d : Dk} {s : ByteArray} (hm : s ∈ d.cells) (h : cellB d.gone s = false) : diskB d = false := by
  have : d.cells.all (cellB d.gone) = false := by rw [List.all_eq_false]; exact ⟨s, hm, by simp [h]⟩
  simp [diskB, this]
theorem diskB_wait {d : Dk} {x : Wt} (hm : x ∈ d.waits) (h : waitB x = false) : diskB d = false := by
  have : d.waits.all waitB = false := by rw [List.all_eq_false]; exact ⟨x, hm, by simp [h]⟩
  simp [diskB, this]
theorem diskB_gone {d : Dk} (h : d.gone = true) (h0 : 0 < d.waits.length) : diskB d = false := by simp [diskB, h, h0]
theorem diskB_rest {d : Dk} (h64 : d.cells.length = 64) (h120 : d.waits.length ≤ 120) (hc : ∀ s ∈ d.cells, cellB d.gone s = true) (hg : (d.gone && decide (0 < d.waits.length)) = false) : diskB d = d.waits.all waitB := by
  have : d.cells.all (cellB d.gone) = true := List.all_eq_true.2 hc
  simp [diskB, this, h64, h120, hg]
theorem all_any {α : Type} (f : α → Bool) (l : List α) : (!l.any fun x => !f x) = l.all f := by
  induction l with
  | nil => rfl
  | cons a l ih => simp [List.any_cons, List.all_cons, Bool.not_or, ih]

def PlaceD (w : World) (b : Bool) (e : Ending) (w' : World) : Prop := ∃ z : Int, e = .returned (.int .i64 z) ∧ decide (0 ≤ z) = b ∧ -1 ≤ z ∧ Below w.heap.size w w'
theorem isCell_any (n : Int) (w : World) : Calls Try.prog 52 #[.int .i64 n] w fun e w' => e = .returned (.bool (inB n 0 63)) ∧ w = w' := by
  go_enter Try.func52, Try.ntmps52
  go_wp2_with (go_at_call 45; refine (within_any _ _ _ _).mono ?_; rintro e w' ⟨rfl, rfl⟩)
  go_ret
  exact ⟨rfl, rfl⟩
theorem l3Cell_any (n : Int) (w : World) : Calls Try.prog 80 #[.int .i64 n] w fun e w' => e = .returned (.bool (inB n 0 63)) ∧ w = w' := by
  go_enter Try.func80, Try.ntmps80
  go_wp2_with (go_at_call 56; refine (l6In_any _ _ _ _).mono ?_; rintro e w' ⟨rfl, rfl⟩)
  go_ret
  exact ⟨rfl, rfl⟩
theorem diskOkC_any (x : Wt) (w : World) (hz : x.text.size ≤ 9223372036854775807) : Calls Try.prog 51 #[x.v] w fun e w' => e = .returned (.bool (!waitB x)) ∧ Below w.heap.size w w' := by
  obtain ⟨z, s⟩ := x
  unfold Wt.v waitB
  dsimp only at *
  have HBa := Lib.hid (below_alloc (Below.refl w.heap.size w) (.cells #[.int .i64 z, .string s] 75))
  have HC := Lib.hid (fun W => isCell_any z W)
  cases hb : inB z 0 63
  · rw [hb] at HC
    go_enter Try.func51, Try.ntmps51
    go_wp2_with fail
    refine Calls.mono (HC.out _) ?_
    rintro e w1 ⟨rfl, rfl⟩
    go_wp2_with fail
    go_ret
    exact ⟨rfl, HBa.out⟩
  · rw [hb] at HC
    by_cases h2 : s.size ≤ 200
    · have i2 : ¬ (200 : Int) < (s.size : Int) := by omega
      have HE := Lib.hid (show (!(true && decide (s.size ≤ 200))) = false by simp [h2])
      clear h2
      go_enter Try.func51, Try.ntmps51
      go_wp2_with fail
      refine Calls.mono (HC.out _) ?_
      rintro e w1 ⟨rfl, rfl⟩
      go_wp2_with fail
      go_ret
      exact ⟨ret_bool (by rw [HE.out]; simp; omega), HBa.out⟩
    · have i2 : (200 : Int) < (s.size : Int) := by omega
      have HE := Lib.hid (show (!(true && decide (s.size ≤ 200))) = true by simp [h2])
      clear h2
      go_enter Try.func51, Try.ntmps51
      go_wp2_with fail
      refine Calls.mono (HC.out _) ?_
      rintro e w1 ⟨rfl, rfl⟩
      go_wp2_with fail
      go_ret
      exact ⟨ret_bool (by rw [HE.out]), HBa.out⟩

set_option maxHeartbeats 2000000 in
theorem idxW_any (w : World) (A : Option Addr) (cap : Nat) (xs : List Wt) (h : RdT encW 2 w A xs) (hc : xs.length ≤ cap) (hm : cap ≤ 9223372036854775807) (hz : ∀ x ∈ xs, x.text.size ≤ 9223372036854775807) :
    Calls Try.prog 77 #[.slice A xs.length cap, .func (.func 51) #[] #[]] w (PlaceD w (xs.any fun x => !waitB x)) := by
  have HR := Lib.hid h
  have HZ := Lib.hid hz
  have hcm : xs.length ≤ 9223372036854775807 := Nat.le_trans hc hm
  clear h hz
  go_enter Try.func77, Try.ntmps77
  go_wp2_with fail
  go_loopw [8] (fun i wr => ∃ k : Nat, k ≤ xs.length ∧ i = .int .i64 k ∧ Hid (∀ x ∈ xs.take k, waitB x = true) ∧ Hid (Below w.heap.size w wr)) (fun i _ => xs.length - (intOf i).toNat)
  case atStart => exact ⟨0, Nat.zero_le _, rfl, Lib.hid (fun x hx => by simp at hx), Lib.hid (Below.refl _ _)⟩
  case round =>
    obtain ⟨k, hk, rfl, HN, HB⟩ := hrel
    by_cases hlt : k < xs.length
    · obtain ⟨b, off, z, s, rfl, hb, he, c0, c1⟩ := (HR.out.below HB.out).wait hlt
      have k2 : IntKind.i64.wrap ((k : Int) + 1) = (k : Int) + 1 := IntWalk.i64_in _ (by omega)
      have HC := Lib.hid (fun W => diskOkC_any ⟨z, s⟩ W (HZ.out _ (List.mem_of_getElem? he)))
      unfold Wt.v at HC
      dsimp only at HC
      cases hx : waitB ⟨z, s⟩
      · have HA := Lib.hid (show (xs.any fun x => !waitB x) = true from List.any_eq_true.2 ⟨_, List.mem_of_getElem? he, by simp [hx]⟩)
        rw [hx] at HC
        clear he hx
        go_wp2_with fail
        refine Calls.mono (HC.out _) ?_
        rintro e w1 ⟨rfl, hB⟩
        have HB2 := Lib.hid (below_below HB.out hB)
        clear hB
        go_wp2_with fail
        go_ret
        refine (?_ : PlaceD w (xs.any fun x => !waitB x) _ _)
        rw [HA.out]
        exact ⟨k, rfl, by simp, by omega, HB2.out⟩
      · have HN2 := Lib.hid (show ∀ x ∈ xs.take (k + 1), waitB x = true by
          rw [List.take_add_one, he]
          intro y hy
          rcases List.mem_append.1 hy with hy | hy
          · exact HN.out y hy
          · simp at hy; rw [hy]; exact hx)
        rw [hx] at HC
        clear he hx
        go_wp2_with fail
        refine Calls.mono (HC.out _) ?_
        rintro e w1 ⟨rfl, hB⟩
        have HB2 := Lib.hid (below_below HB.out hB)
        clear hB
        go_wp2_with fail
        exact ⟨⟨k + 1, by omega, by go_num, HN2, HB2⟩, by simp [intOf]; omega⟩
    · obtain rfl : k = xs.length := by omega
      have HA := Lib.hid (show (xs.any fun x => !waitB x) = false by
        rw [List.any_eq_false]
        intro x hx
        have := HN.out x (by rw [List.take_length]; exact hx)
        rw [this]; simp)
      go_wp2_with fail
      go_ret
      refine (?_ : PlaceD w (xs.any fun x => !waitB x) _ _)
      rw [HA.out]
      exact ⟨-1, rfl, by decide, by omega, HB.out⟩
theorem contW_any (w : World) (A : Option Addr) (cap : Nat) (xs : List Wt) (h : RdT encW 2 w A xs) (hc : xs.length ≤ cap) (hm : cap ≤ 9223372036854775807) (hz : ∀ x ∈ xs, x.text.size ≤ 9223372036854775807) :
    Calls Try.prog 50 #[.slice A xs.length cap, .func (.func 51) #[] #[]] w fun e w' => e = .returned (.bool (xs.any fun x => !waitB x)) ∧ Below w.heap.size w w' := by
  have HI := Lib.hid (idxW_any w A cap xs h hc hm hz)
  clear h hz
  go_enter Try.func50, Try.ntmps50
  go_wp2_with fail
  refine Calls.mono HI.out ?_
  rintro e w1 ⟨z, rfl, hz, h1, hB⟩
  have HB := Lib.hid hB
  have HZ := Lib.hid hz
  clear hB hz
  go_wp2_with fail
  go_ret
  exact ⟨ret_bool HZ.out, HB.out⟩

set_option maxHeartbeats 4000000 in
theorem diskOk_any (w : World) (x : DA) (d : Dk) (h : DRd w x d) : Calls Try.prog 30 #[x.v] w fun e w' => e = .returned (.bool (diskB d)) ∧ Below w.heap.size w w' := by
  obtain ⟨C, nC, cC, W, nW, cW, g⟩ := x
  obtain ⟨hc, hw, hlC, hlW, hC, hW, mC, mW, hg, zC, zW⟩ := h
  obtain ⟨cells, waits, g'⟩ := d
  dsimp only at *
  subst hg
  subst hlC
  subst hlW
  have HBa := Lib.hid (below_alloc (Below.refl w.heap.size w) (.cells #[.slice C cells.length cC, .slice W waits.length cW, .bool g'] 51))
  unfold DA.v
  dsimp only
  have HR := Lib.hid (hc.below HBa.out)
  have HQ := Lib.hid (hw.below HBa.out)
  have HZC := Lib.hid zC
  have HZW := Lib.hid zW
  clear hc hw zC zW
  by_cases h64 : cells.length = 64
  rotate_left 1
  · have HE := Lib.hid (diskB_len (d := ⟨cells, waits, g'⟩) h64)
    have i64 : ¬ (cells.length : Int) = 64 := by omega
    have j64 : ((cells.length : Int) != 64) = true := by simp; omega
    clear HR HQ HZC HZW
    go_enter Try.func30, Try.ntmps30
    go_wp2_with fail
    go_ret
    exact ⟨ret_bool HE.out.symm, HBa.out⟩
  by_cases h120 : waits.length ≤ 120
  rotate_left 1
  · have HE := Lib.hid (diskB_long (d := ⟨cells, waits, g'⟩) h120)
    have H64 := Lib.hid h64
    have i120 : (120 : Int) < (waits.length : Int) := by omega
    rw [h64] at hC ⊢ HBa
    clear HR HQ HZC HZW h64 h120
    go_enter Try.func30, Try.ntmps30
    go_wp2_with fail
    go_ret
    exact ⟨ret_bool HE.out.symm, HBa.out⟩
  have i120 : ¬ (120 : Int) < (waits.length : Int) := by omega
  have HCF := Lib.hid (contW_any _ W cW waits HQ.out hW mW HZW.out)
  have H64 := Lib.hid h64
  have H120 := Lib.hid h120
  have HG := Lib.hid (fun (hh : ∀ s ∈ cells, cellB g' s = true) => (fun (hg : (g' && decide (0 < waits.length)) = false) => (show diskB ⟨cells, waits, g'⟩ = !(waits.any fun x => !waitB x) by rw [all_any]; exact diskB_rest (d := ⟨cells, waits, g'⟩) h64 h120 hh hg)))
  rw [h64] at hC HBa HCF ⊢
  rw [h64] at HR
  clear HQ HZW h64 h120
  go_enter Try.func30, Try.ntmps30
  go_wp2_with fail
  go_loop [18] (fun y => ∃ k : Nat, k ≤ 64 ∧ y = .int .i64 k ∧ Hid (∀ s ∈ cells.take k, cellB g' s = true)) (fun y => 64 - (intOf y).toNat)
  case atStart => exact ⟨0, Nat.zero_le _, rfl, Lib.hid (fun x hx => by simp at hx)⟩
  case round =>
    obtain ⟨k, hk, rfl, HN⟩ := hrel
    by_cases hlt : k < 64
    · obtain ⟨b, off, s, rfl, hb, he, c0⟩ := HR.out.str1 (k := k) (by rw [H64.out]; exact hlt)
      have k2 : IntKind.i64.wrap ((k : Int) + 1) = (k : Int) + 1 := IntWalk.i64_in _ (by omega)
      have hzs := HZC.out s (List.mem_of_getElem? he)
      have HBD := Lib.hid (fun (hf : cellB g' s = false) => diskB_cell (d := ⟨cells, waits, g'⟩) (List.mem_of_getElem? he) hf)
      have HN2 := Lib.hid (fun (hx : cellB g' s = true) => (show ∀ x ∈ cells.take (k + 1), cellB g' x = true by
          rw [List.take_add_one, he]
          intro y hy
          rcases List.mem_append.1 hy with hy | hy
          · exact HN.out y hy
          · simp at hy; rw [hy]; exact hx))
      clear he
      by_cases h2 : s.size ≤ 200
      · have i2 : ¬ (200 : Int) < (s.size : Int) := by omega
        cases hgg : g'
        · subst hgg
          have HM := HN2.out (by simp [cellB, h2])
          replace HN2 := Lib.hid HM
          clear HM h2 HBD
          go_wp2_with fail
          exact ⟨⟨k + 1, by omega, by go_num, HN2⟩, by simp [intOf]; omega⟩
        · subst hgg
          cases hem : s.toList.isEmpty
          · have HM := Lib.hid (HBD.out (by simp [cellB, hem]))
            clear h2 HN2 HBD
            go_wp2_with fail
            go_ret
            exact ⟨ret_bool HM.out.symm, HBa.out⟩
          · have HM := HN2.out (by simp only [cellB, hem]; simp [h2])
            replace HN2 := Lib.hid HM
            clear HM h2 HBD
            go_wp2_with fail
            exact ⟨⟨k + 1, by omega, by go_num, HN2⟩, by simp [intOf]; omega⟩
      · have i2 : (200 : Int) < (s.size : Int) := by omega
        have HM := Lib.hid (HBD.out (by simp [cellB, h2]))
        clear h2 HN2 HBD
        go_wp2_with fail
        go_ret
        exact ⟨ret_bool HM.out.symm, HBa.out⟩
    · obtain rfl : k = 64 := by omega
      have HAll := Lib.hid (HG.out (fun s hs => HN.out s (by rw [List.take_of_length_le (by rw [H64.out]; exact Nat.le_refl _)]; exact hs)))
      have HGN := Lib.hid (fun (hg : g' = true) h0 => diskB_gone (d := ⟨cells, waits, g'⟩) hg h0)
      clear HR HZC HG HN
      generalize (waits.any fun x => !waitB x) = anyb at *
      generalize waits.length = nw at *
      cases g'
      · replace HAll := Lib.hid (HAll.out rfl)
        clear HGN
        go_wp2_with fail
        refine Calls.mono HCF.out ?_
        rintro e w1 ⟨rfl, hB⟩
        have HB2 := Lib.hid (below_below HBa.out hB)
        clear hB
        go_wp2_with fail
        go_ret
        exact ⟨ret_bool HAll.out.symm, HB2.out⟩
      · by_cases h0 : 0 < nw
        · have i0 : (0 : Int) < (nw : Int) := by omega
          have HM := Lib.hid (HGN.out rfl h0)
          clear HGN HAll h0
          go_wp2_with fail
          go_ret
          exact ⟨ret_bool HM.out.symm, HBa.out⟩
        · obtain rfl : nw = 0 := by omega
          replace HAll := Lib.hid (HAll.out (by simp [h0]))
          clear HGN h0
          go_wp2_with fail
          refine Calls.mono HCF.out ?_
          rintro e w1 ⟨rfl, hB⟩
          have HB2 := Lib.hid (below_below HBa.out hB)
          clear hB
          go_wp2_with fail
          go_ret
          exact ⟨ret_bool HAll.out.symm, HB2.out⟩
theorem raidOkC_any (x : DA) (d : Dk) (w : World) (h : DRd w x d) : Calls Try.prog 29 #[x.v] w fun e w' => e = .returned (.bool (!diskB d)) ∧ Below w.heap.size w w' := by
  have HBa := Lib.hid (below_alloc (Below.refl w.heap.size w) (.cells #[.slice x.C x.nC x.cC, .slice x.W x.nW x.cW, .bool x.g] 51))
  have HD := Lib.hid (diskOk_any _ x d (h.below HBa.out))
  clear h
  unfold DA.v at *
  generalize diskB d = db at *
  obtain ⟨C, nC, cC, W, nW, cW, g⟩ := x
  dsimp only at *
  go_enter Try.func29, Try.ntmps29
  go_wp2_with fail
  refine Calls.mono HD.out ?_
  rintro e w1 ⟨rfl, hB⟩
  have HB := Lib.hid (below_below HBa.out hB)
  clear hB
  go_wp2_with fail
  go_ret
  exact ⟨rfl, HB.out⟩

set_option maxHeartbeats 2000000 in
theorem idxD_any (w : World) (A : Option Addr) (cap : Nat) (xs : List DA) (ds : List Dk) (h : RRd w A cap xs ds) :
    Calls Try.prog 49 #[.slice A xs.length cap, .func (.func 29) #[] #[]] w (PlaceD w (ds.any fun x => !diskB x)) := by
  have HR := Lib.hid h
  have hc := h.hc
  have hm := h.mc
  have HLN := Lib.hid h.len
  have hcm : xs.length ≤ 9223372036854775807 := Nat.le_trans hc hm
  clear h
  go_enter Try.func49, Try.ntmps49
  go_wp2_with fail
  go_loopw [8] (fun i wr => ∃ k : Nat, k ≤ xs.length ∧ i = .int .i64 k ∧ Hid (∀ x ∈ ds.take k, diskB x = true) ∧ Hid (Below w.heap.size w wr)) (fun i _ => xs.length - (intOf i).toNat)
  case atStart => exact ⟨0, Nat.zero_le _, rfl, Lib.hid (fun x hx => by simp at hx), Lib.hid (Below.refl _ _)⟩
  case round =>
    obtain ⟨k, hk, rfl, HN, HB⟩ := hrel
    by_cases hlt : k < xs.length
    · obtain ⟨b, off, x, rfl, hb, he, c0, c1, c2⟩ := (HR.out.below HB.out).rows.disk hlt
      obtain ⟨d, hd, hrd⟩ := (HR.out.below HB.out).each k x he
      have k2 : IntKind.i64.wrap ((k : Int) + 1) = (k : Int) + 1 := IntWalk.i64_in _ (by omega)
      have HC := Lib.hid (raidOkC_any x d wr hrd)
      obtain ⟨xC, xnC, xcC, xW, xnW, xcW, xg⟩ := x
      unfold DA.v at HC
      dsimp only at HC c0 c1 c2
      clear hrd he
      cases hx : diskB d
      · have HA := Lib.hid (show (ds.any fun x => !diskB x) = true from List.any_eq_true.2 ⟨_, List.mem_of_getElem? hd, by simp [hx]⟩)
        rw [hx] at HC
        clear hd hx
        go_wp2_with fail
        refine Calls.mono HC.out ?_
        rintro e w1 ⟨rfl, hB⟩
        have HB2 := Lib.hid (below_below HB.out hB)
        clear hB
        go_wp2_with fail
        go_ret
        refine (?_ : PlaceD w (ds.any fun x => !diskB x) _ _)
        rw [HA.out]
        exact ⟨k, rfl, by simp, by omega, HB2.out⟩
      · have HN2 := Lib.hid (show ∀ x ∈ ds.take (k + 1), diskB x = true by
          rw [List.take_add_one, hd]
          intro y hy
          rcases List.mem_append.1 hy with hy | hy
          · exact HN.out y hy
          · simp at hy; rw [hy]; exact hx)
        rw [hx] at HC
        clear hd hx
        go_wp2_with fail
        refine Calls.mono HC.out ?_
        rintro e w1 ⟨rfl, hB⟩
        have HB2 := Lib.hid (below_below HB.out hB)
        clear hB
        go_wp2_with fail
        exact ⟨⟨k + 1, by omega, by go_num, HN2, HB2⟩, by simp [intOf]; omega⟩
    · obtain rfl : k = xs.length := by omega
      have HA := Lib.hid (show (ds.any fun x => !diskB x) = false by
        rw [List.any_eq_false]
        intro x hx
        have := HN.out x (by rw [List.take_of_length_le (by rw [HLN.out]; exact Nat.le_refl _)]; exact hx)
        rw [this]; simp)
      go_wp2_with fail
      go_ret
      refine (?_ : PlaceD w (ds.any fun x => !diskB x) _ _)
      rw [HA.out]
      exact ⟨-1, rfl, by decide, by omega, HB.out⟩
theorem contD_any (w : World) (A : Option Addr) (cap : Nat) (xs : List DA) (ds : List Dk) (h : RRd w A cap xs ds) :
    Calls Try.prog 28 #[.slice A xs.length cap, .func (.func 29) #[] #[]] w fun e w' => e = .returned (.bool (ds.any fun x => !diskB x)) ∧ Below w.heap.size w w' := by
  have HI := Lib.hid (idxD_any w A cap xs ds h)
  clear h
  go_enter Try.func28, Try.ntmps28
  go_wp2_with fail
  refine Calls.mono HI.out ?_
  rintro e w1 ⟨z, rfl, hz, h1, hB⟩
  have HB := Lib.hid hB
  have HZ := Lib.hid hz
  clear hB hz
  go_wp2_with fail
  go_ret
  exact ⟨ret_bool HZ.out, HB.out⟩

set_option maxHeartbeats 1000000 in
theorem raidOk_any (w : World) (A : Option Addr) (cap : Nat) (xs : List DA) (ds : List Dk) (h : RRd w A cap xs ds) :
    Calls Try.prog 11 #[.agg #[.slice A xs.length cap]] w fun e w' => e = .returned (.bool (raidB ds)) ∧ Below w.heap.size w w' := by
  have HBa := Lib.hid (below_alloc (Below.refl w.heap.size w) (.cells #[.slice A xs.length cap] 25))
  have HC := Lib.hid (contD_any _ A cap xs ds (h.below HBa.out))
  have hc := h.hc
  have hm := h.mc
  have HLN := Lib.hid h.len
  have HV := Lib.hid (show raidB ds = (xs.length == 3 && !(ds.any fun x => !diskB x)) by rw [all_any, ← h.len]; rfl)
  clear h
  generalize (ds.any fun x => !diskB x) = anyb at *
  by_cases h3 : xs.length = 3
  · rw [h3] at HC HBa hc HV ⊢
    go_enter Try.func11, Try.ntmps11
    go_wp2_with fail
    refine Calls.mono HC.out ?_
    rintro e w1 ⟨rfl, hB⟩
    have HB := Lib.hid (below_below HBa.out hB)
    clear hB
    go_wp2_with fail
    go_ret
    exact ⟨by rw [HV.out]; rfl, HB.out⟩
  · have e3 : (xs.length == 3) = false := by simp [h3]
    rw [e3, Bool.false_and] at HV
    have i3 : ((xs.length : Int) == 3) = false := by simp; omega
    clear HC
    generalize xs.length = n at *
    go_enter Try.func11, Try.ntmps11
    go_wp2_with fail
    go_ret
    exact ⟨ret_bool HV.out.symm, HBa.out⟩

end Go.Proofs.Ytamljoffmkcbnaa
