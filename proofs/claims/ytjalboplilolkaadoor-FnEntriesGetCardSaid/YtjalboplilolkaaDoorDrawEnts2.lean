/- What the laws on entries draw; lists compared. -/
import Derived.Test.YtjalboplilolkaaDoorDrawEnts
import Derived.Test.YtjalboplilolkaaDoorLawCode
namespace Go.Proofs.YtjalboplilolkaaDoor
open Go.RowKit
set_option linter.unusedVariables false
set_option linter.unusedSimpArgs false

theorem kp_belowE {w w1 w2 : World} {rb : Nat} (h : Below w.heap.size w w1) (hk : Kp [rb] w1 w2) (hr : w.heap.size ≤ rb) : Below w.heap.size w w2 := below_kp h hk (fun k hk => by simp at hk; omega)

set_option maxHeartbeats 1000000 in
theorem pfEntries_true (w : World) (A B : Option Addr) (cap dap : Nat) (es : List Ent) (h : RdT encE 2 w A es) (g : RdT encE 2 w B es) (hc : es.length ≤ cap) (hd : es.length ≤ dap) (hm : cap ≤ 9223372036854775807) :
    Calls Tryd.prog 16 #[.slice A es.length cap, .slice B es.length dap] w fun e w' => e = .returned (.bool true) ∧ Below w.heap.size w w' := by
  have HR := Lib.hid h
  have HG := Lib.hid g
  clear h g
  go_enter Tryd.func16, Tryd.ntmps16
  go_wp2_with fail
  go_loopw [5] (fun i wr => ∃ k : Nat, k ≤ es.length ∧ i = .int .i64 k ∧ Below w.heap.size w wr) (fun i _ => es.length - (intOf i).toNat)
  case atStart => exact ⟨0, Nat.zero_le _, rfl, Below.refl _ _⟩
  case round =>
    obtain ⟨k, hk, rfl, hB⟩ := hrel
    have HB := Lib.hid hB
    clear hB
    by_cases hlt : k < es.length
    · obtain ⟨b, off, nm, id, rfl, hb, he, c0, c1⟩ := (HR.out.below HB.out).entry hlt
      obtain ⟨b', off', nm', id', rfl, hb', he', c0', c1'⟩ := (HG.out.below HB.out).entry hlt
      obtain ⟨rfl, rfl⟩ : nm = nm' ∧ id = id' := by rw [he] at he'; cases he'; exact ⟨rfl, rfl⟩
      clear he he'
      go_wp2_with fail
      refine wp_quiet_b (by kernel_rfl) (by kernel_rfl) (fun hgrow => ?_)
      repeat (go_big_quiet_step (fail))
      refine wpQuiet_nil ?_
      intro w2 hww2
      replace hww2 := below_of_regrown hww2
      clear hgrow
      go_wp2_with fail
      go_roundw
      case rel => exact ⟨k + 1, by omega, by go_num, by have := HB.out; (repeat (first | assumption | exact Below.refl _ _ | refine below_alloc ?_ _ | refine Below.drew ?_ | refine below_drewN ?_ _ | refine below_set ?_ (by first | exact Nat.le_refl _ | omega | (simp; done) | (simp; omega)) _ | refine below_kp ?_ (by assumption) (by simp) | refine below_below ?_ (by assumption)))⟩
      case measure => simp [intOf]; omega
    · obtain rfl : k = es.length := by omega
      go_wp2_with fail
      go_ret
      exact ⟨rfl, HB.out⟩

def EntsS (w : World) (e : Ending) (w' : World) : Prop := ∃ (v : Value) (l : List Ent) (s : ByteArray), e = .returned (.tuple #[v, .string s]) ∧ Own encE 2 76 w.heap.size w' v l ∧ l.length ≤ 13 ∧ (∀ x ∈ l, x.name.size ≤ 100) ∧ s.size ≤ 100 ∧ Below w.heap.size w w'
def EntsI (w : World) (e : Ending) (w' : World) : Prop := ∃ (v : Value) (l : List Ent) (s : ByteArray) (n : Int), e = .returned (.tuple #[v, .string s, .int .i64 n]) ∧ Own encE 2 76 w.heap.size w' v l ∧ l.length ≤ 13 ∧ (∀ x ∈ l, x.name.size ≤ 100) ∧ s.size ≤ 100 ∧ Below w.heap.size w w'

end Go.Proofs.YtjalboplilolkaaDoor
