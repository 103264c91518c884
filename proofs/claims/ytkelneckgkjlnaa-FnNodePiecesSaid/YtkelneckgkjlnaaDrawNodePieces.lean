/- What the law on NodePieces draws: some kind and some size. -/
import Derived.Test.YtkelneckgkjlnaaPick
import Derived.Deep.RegionWith
namespace Go.Proofs.Ytkelneckgkjlnaa
open Go.RowKit
set_option linter.unusedVariables false
set_option linter.unusedSimpArgs false

def TwoInts (w : World) (e : Ending) (w' : World) : Prop := ∃ a b : Int, e = .returned (.tuple #[.int .i64 a, .int .i64 b]) ∧ Below w.heap.size w w'

set_option maxHeartbeats 1600000 in
theorem drawNodePieces_any (w : World) (A : Option Addr) (cap : Nat) (zs : List Int) (h : RdT (encI .u8) 1 w A zs) (hb : ∀ z ∈ zs, 0 ≤ z ∧ z ≤ 255) (hc : zs.length ≤ cap) (hm : cap ≤ 9223372036854775807) :
    Calls Try.prog 9 #[.slice A zs.length cap] w (TwoInts w) := by
  have HO := Lib.hid (open_any w A cap zs h hb hc hm)
  clear h hb
  generalize zs.length = n at HO hc ⊢
  go_enter Try.func9, Try.ntmps9
  go_wp2_with fail
  refine HO.out.mono ?_
  rintro e w1 ⟨rfl, hr, hB⟩
  have hl1 := hr.lt
  have hn1 : ¬ w1.heap.size = w.heap.size := by omega
  have hB1 := Lib.hid hB
  clear hB
  have tok := True.intro
  go_wp2_with fail
  go_region_with (first | (go_at_call 20; have _t := tok; refine Calls.mono (pick_nat _ _ _ _ (by first | assumption | exact Rs.drew ((by assumption)) | exact Rs.drewN ((by assumption)) _ | exact Rs.alloc ((by assumption)) _ | exact Rs.drew (Rs.alloc ((by assumption)) _) | exact Rs.drewN (Rs.alloc ((by assumption)) _) _ | exact Rs.alloc (Rs.alloc ((by assumption)) _) _ | exact Rs.drew (Rs.alloc (Rs.alloc ((by assumption)) _) _) | exact Rs.drewN (Rs.alloc (Rs.alloc ((by assumption)) _) _) _ | exact Rs.alloc (Rs.alloc (Rs.alloc ((by assumption)) _) _) _ | exact Rs.drew (Rs.alloc (Rs.alloc (Rs.alloc ((by assumption)) _) _) _) | exact Rs.drewN (Rs.alloc (Rs.alloc (Rs.alloc ((by assumption)) _) _) _) _ | exact Rs.alloc (Rs.alloc (Rs.alloc (Rs.alloc ((by assumption)) _) _) _) _ | exact Rs.drew (Rs.alloc (Rs.alloc (Rs.alloc (Rs.alloc ((by assumption)) _) _) _) _) | exact Rs.drewN (Rs.alloc (Rs.alloc (Rs.alloc (Rs.alloc ((by assumption)) _) _) _) _) _) (by omega) (by omega) (by omega)) ?_; rintro e w' ⟨k, rfl, hk0, hr', hk⟩; have hru := hk.rule; have hlt := hr'.lt; have hne : ¬ w'.heap.size = w.heap.size := (by omega); have hsz := hk.size; (try simp only [World.size_alloc, World.size_drew, Nat.add_one_le_iff] at hsz); clear tok) | (go_at_call 20; refine Calls.mono (pick_nat _ _ _ _ (by first | assumption | exact Rs.drew ((by assumption)) | exact Rs.drewN ((by assumption)) _ | exact Rs.alloc ((by assumption)) _ | exact Rs.drew (Rs.alloc ((by assumption)) _) | exact Rs.drewN (Rs.alloc ((by assumption)) _) _ | exact Rs.alloc (Rs.alloc ((by assumption)) _) _ | exact Rs.drew (Rs.alloc (Rs.alloc ((by assumption)) _) _) | exact Rs.drewN (Rs.alloc (Rs.alloc ((by assumption)) _) _) _ | exact Rs.alloc (Rs.alloc (Rs.alloc ((by assumption)) _) _) _ | exact Rs.drew (Rs.alloc (Rs.alloc (Rs.alloc ((by assumption)) _) _) _) | exact Rs.drewN (Rs.alloc (Rs.alloc (Rs.alloc ((by assumption)) _) _) _) _ | exact Rs.alloc (Rs.alloc (Rs.alloc (Rs.alloc ((by assumption)) _) _) _) _ | exact Rs.drew (Rs.alloc (Rs.alloc (Rs.alloc (Rs.alloc ((by assumption)) _) _) _) _) | exact Rs.drewN (Rs.alloc (Rs.alloc (Rs.alloc (Rs.alloc ((by assumption)) _) _) _) _) _) (by omega) (by omega) (by omega)) ?_; rintro e w' ⟨k, rfl, hk0, hr', hk⟩; have hru := hk.rule; have hlt := hr'.lt; have hne : ¬ w'.heap.size = w.heap.size := (by omega); have hsz := hk.size; (try simp only [World.size_alloc, World.size_drew, Nat.add_one_le_iff] at hsz); obtain ⟨z, hz⟩ := lit_int [0, 1, 12, 13, 128, 129, 192, 193, 2048, 2049, -1, 100] k hk0; simp only [List.map] at hz; have hk1 : (k : Int) < 12 := (by simp at hk0; omega); clear hk0))
  all_goals go_wp2
  all_goals go_ret2
  all_goals
    have hB2 := hB1.out
    exact ⟨_, _, rfl, by (repeat (first | assumption | exact Below.refl _ _ | refine below_alloc ?_ _ | refine Below.drew ?_ | refine below_drewN ?_ _ | refine below_set ?_ (by first | exact Nat.le_refl _ | omega | (simp; done) | (simp; omega)) _ | refine below_kp ?_ (by assumption) (by simp) | refine below_below ?_ (by assumption)))⟩

end Go.Proofs.Ytkelneckgkjlnaa
