/- EntriesAdd, the program's. -/
import Derived.Test.YtmbjioboepbjnaaEntInsG
import Derived.Test.YtmbjioboepbjnaaEntAddLaw
namespace Go.Proofs.Ytmbjioboepbjnaa
open Go.RowKit
set_option linter.unusedVariables false
set_option linter.unusedSimpArgs false

theorem clone_nil (w : World) (cap : Nat) :
    Calls Try.prog 20 #[.slice none 0 cap] w fun e w' => e = .returned (.slice none 0 0) ∧ w = w' := by
  have q26 : ∀ (w : World) (a : Option Addr) (n c n' c' : Nat), (binOp .eql 23 (.slice a n c) (.slice none n' c')).run Try.prog w = .ok (.bool a.isNone) w := fun w a n c n' c' => Lib.run_eql_slice_nil w _ _ a n c n' c' Try.underlying23
  go_enter Try.func20, Try.ntmps20
  go_wp2_with fail
  go_ret
  exact ⟨rfl, rfl⟩

set_option maxHeartbeats 1600000 in
theorem insert_nil (base : Nat) (w : World) (h : Nat) (x : Ent) (hr : RdT encE 2 w (some ⟨h, 0, none⟩) [x]) (hbw : base ≤ w.heap.size) :
    Calls Try.prog 19 #[.slice none 0 0, .int .i64 0, .slice (some ⟨h, 0, none⟩) 1 1] w (InsPost base w [x]) := by
  have HO := Lib.hid (show Own encE 2 32 base w (.slice none 0 0) ([] : List Ent) from Own.nil)
  have HR := Lib.hid hr
  have K := Lib.hid (And.intro (show (0 + 1) * 24 ≤ 140737488355328 by omega) (show 0 + 1 ≤ maxLen by unfold maxLen; omega))
  clear hr
  go_enter Try.func19, Try.ntmps19
  go_wp2_with (at_builtin; refine wpList_app (ys := ([x] : List Ent)) elE rfl _ _ rfl (by rfl) HO.out (by rfl) rfl HR.out oneE K.out.1 K.out.2 hbw ?_; intro v1 w1 hown1 hg1 hat1)
  all_goals exact bodyPost_ret (v := v1) (by simp [results, Try.results19, go_sem]) rfl ⟨_, rfl, hown1, (Below.refl base w).grown hg1 hbw (fun k hk => by cases hk)⟩

/-- Insert, wherever it goes. -/
theorem insert_any (base : Nat) (w : World) (v : Value) (h : Nat) (es : List Ent) (x : Ent) (i : Nat) (hO : Own encE 2 32 base w v es) (hh : w.heap[h]? = some (.cells #[.string x.name, .int .i64 x.id] 32)) (hne : v.ownBlock ≠ some h) (hi : i ≤ es.length) (hn : es.length ≤ 1048576) (hbw : base ≤ w.heap.size) :
    Calls Try.prog 19 #[v, .int .i64 i, .slice (some ⟨h, 0, none⟩) 1 1] w (InsPost base w (es.take i ++ x :: es.drop i)) := by
  have hlt : h < w.heap.size := by
    rcases Nat.lt_or_ge h w.heap.size with h' | h'
    · exact h'
    · rw [Array.getElem?_eq_none h'] at hh; cases hh
  have hr : RdT encE 2 w (some ⟨h, 0, none⟩) [x] := fun _ => ⟨h, 0, rfl, hlt, fun i y hy j hj => by
    have : i = 0 := by
      rcases i with _ | i
      · rfl
      · simp at hy
    subst this
    simp at hy
    subst hy
    unfold World.cell?
    simp only [hh]
    rcases (show j = 0 ∨ j = 1 by omega) with rfl | rfl
    · simp [encE]
    · simp [encE]⟩
  rcases hO.2 with ⟨rfl, h0⟩ | ⟨g, cap, cur, rfl, hg, hgh, hnc, hcm, hcs, hct⟩
  · obtain rfl : es = [] := List.length_eq_zero_iff.1 h0
    obtain rfl : i = 0 := by simpa using hi
    exact insert_nil base w h x hr hbw
  · have hne' : h ≠ g := fun e => hne (by simp [Value.ownBlock, e])
    rcases Nat.lt_or_ge i es.length with hlt | hge
    · rcases Nat.lt_or_ge cap (es.length + 1) with hc | hc
      · exact insert_grow base w g cap h es x i hO hh hlt hc hn hbw
      · exact insert_shift base w g cap h es x i hO hh hne' hlt hc hn hbw
    · obtain rfl : i = es.length := by omega
      rw [List.take_of_length_le (Nat.le_refl _), List.drop_of_length_le (Nat.le_refl _)]
      exact insert_end base w g cap h es x hO hr hn hbw

end Go.Proofs.Ytmbjioboepbjnaa
