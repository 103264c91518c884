/- The text of a node, in plain Lean. -/
import Derived.Test.YthedmiippfpbnaaGreatDoorPtrPut
import Derived.Test.YthedmiippfpbnaaGreatDoorFields
import Derived.Test.YthedmiippfpbnaaGreatDoorBox
import Derived.Test.YthedmiippfpbnaaGreatDoorIntS
namespace Go.Proofs.YthedmiippfpbnaaGreatDoor
open Go.RowKit
set_option maxRecDepth 100000
set_option linter.unusedVariables false
set_option linter.unusedSimpArgs false

def endT : ByteArray := ⟨#[101, 110, 100]⟩
def nodeF (n : Nd) : List ByteArray := [decT n.kind, decT n.links, decT n.size, ptrT n.root, decT n.depth, decT n.many, endT]
def nodeT (n : Nd) : ByteArray := if nodeB n = true then recT (nodeF n) else ⟨#[]⟩
theorem pieces_in {k s : Int} (h : 0 ≤ piecesOf k s) : 1 ≤ k ∧ k ≤ 2 ∧ 0 ≤ s ∧ s ≤ 2048 ∧ piecesOf k s ≤ 16 := by
  unfold piecesOf at *
  rcases eachOf_cases k with ⟨rfl, he⟩ | ⟨rfl, he⟩ | ⟨h1, h2, he⟩
  · rw [he] at h ⊢
    simp only [show ¬ ((12 : Int) = 0) by decide, if_false] at h ⊢
    split at h
    · next hb =>
      have := inB_true hb
      rw [if_pos hb]
      omega
    · omega
  · rw [he] at h ⊢
    simp only [show ¬ ((128 : Int) = 0) by decide, if_false] at h ⊢
    split at h
    · next hb =>
      have := inB_true hb
      rw [if_pos hb]
      omega
    · omega
  · rw [he] at h
    simp at h
theorem depthB_in (n : Int) : 0 ≤ depthB n ∧ depthB n ≤ 2 := by
  unfold depthB
  split
  · omega
  · split <;> omega
theorem node_bounds {n : Nd} (h : nodeB n = true) : 1 ≤ n.kind ∧ n.kind ≤ 2 ∧ 1 ≤ n.links ∧ n.links ≤ 9 ∧ 0 ≤ n.size ∧ n.size ≤ 2048 ∧ 0 ≤ n.depth ∧ n.depth ≤ 2 ∧ 0 ≤ n.many ∧ n.many ≤ 16 ∧ ptrB n.root = true := by
  simp only [nodeB, Bool.and_eq_true, decide_eq_true_eq, beq_iff_eq] at h
  obtain ⟨h1, h2, h3, h4, h5, _⟩ := h
  obtain ⟨a, b, c, d, e⟩ := pieces_in h1
  have l := inB_true h2
  have l9 : n.links ≤ 9 := by
    have := l.2
    split at this <;> omega
  have dd := depthB_in (piecesOf n.kind n.size)
  exact ⟨a, b, l.1, l9, c, d, by omega, by omega, by omega, by omega, h5⟩
theorem ptrT_size (p : Pt) : (ptrT p).size ≤ 49 := by
  unfold ptrT
  split
  · next h => rw [ofL_size]; exact (ptrL_len h).2
  · exact Nat.zero_le _
theorem decT_len9 {n : Int} (h0 : 0 ≤ n) (h1 : n ≤ 999999999) : (decT n).size ≤ 9 := by rw [decT, ofL_size]; exact (decL_len h0 h1).2
theorem fld_le9 {s : ByteArray} {m : Nat} (h : s.size ≤ m) (hm : m ≤ 999999999) : (fldL s).length ≤ m + 10 := by
  have h1 := fld_len s
  have h2 := (decL_len (n := (s.size : Int)) (by omega) (by omega)).2
  omega
theorem node_rec {n : Nd} (h : nodeB n = true) : recB (nodeF n) = true := by
  obtain ⟨b1, b2, b3, b4, b5, b6, b7, b8, b9, b10, b11⟩ := node_bounds h
  refine rec_fits (by simp [nodeF]) ?_
  have f1 := fld_le9 (decT_len9 (n := n.kind) (by omega) (by omega)) (by omega)
  have f2 := fld_le9 (decT_len9 (n := n.links) (by omega) (by omega)) (by omega)
  have f3 := fld_le9 (decT_len9 (n := n.size) (by omega) (by omega)) (by omega)
  have f4 := fld_le9 (ptrT_size n.root) (by omega)
  have f5 := fld_le9 (decT_len9 (n := n.depth) (by omega) (by omega)) (by omega)
  have f6 := fld_le9 (decT_len9 (n := n.many) (by omega) (by omega)) (by omega)
  have f7 := fld_le9 (show endT.size ≤ 3 by decide) (by omega)
  simp only [nodeF, recL, List.length_append, List.length_nil]
  omega
theorem node_sizes {n : Nd} (h : nodeB n = true) : ∀ x ∈ nodeF n, x.size ≤ 1048576 := by
  obtain ⟨b1, b2, b3, b4, b5, b6, b7, b8, b9, b10, b11⟩ := node_bounds h
  have f1 := decT_len9 (n := n.kind) (by omega) (by omega)
  have f2 := decT_len9 (n := n.links) (by omega) (by omega)
  have f3 := decT_len9 (n := n.size) (by omega) (by omega)
  have f4 := ptrT_size n.root
  have f5 := decT_len9 (n := n.depth) (by omega) (by omega)
  have f6 := decT_len9 (n := n.many) (by omega) (by omega)
  have f7 : endT.size ≤ 3 := by decide
  intro x hx
  simp only [nodeF, List.mem_cons, List.not_mem_nil, or_false] at hx
  rcases hx with rfl | rfl | rfl | rfl | rfl | rfl | rfl <;> omega
theorem rd_sevenS (w : World) (a b c d e f g : ByteArray) : RdT encS 1 (w.alloc (.cells #[.string a, .string b, .string c, .string d, .string e, .string f, .string g] 9)) (some ⟨w.heap.size, 0, none⟩) [a, b, c, d, e, f, g] := fun _ => ⟨w.heap.size, 0, rfl, by simp, fun i x hx j hj => by
  obtain rfl : j = 0 := by omega
  have hb := (box_new w #[.string a, .string b, .string c, .string d, .string e, .string f, .string g] 9).cell (0 + i * 1 + 0)
  rw [hb]
  rcases i with _ | _ | _ | _ | _ | _ | _ | i
  all_goals simp at hx
  all_goals (try subst hx)
  all_goals rfl⟩
theorem rd_threeN (w : World) (a b c : Int) : RdT encN 1 (w.alloc (.cells #[.int .i64 a, .int .i64 b, .int .i64 c] 3)) (some ⟨w.heap.size, 0, none⟩) [a, b, c] := fun _ => ⟨w.heap.size, 0, rfl, by simp, fun i x hx j hj => by
  obtain rfl : j = 0 := by omega
  have hb := (box_new w #[.int .i64 a, .int .i64 b, .int .i64 c] 3).cell (0 + i * 1 + 0)
  rw [hb]
  rcases i with _ | _ | _ | i
  all_goals simp at hx
  all_goals (try subst hx)
  all_goals rfl⟩
theorem rd_twoN (w : World) (a b : Int) : RdT encN 1 (w.alloc (.cells #[.int .i64 a, .int .i64 b] 3)) (some ⟨w.heap.size, 0, none⟩) [a, b] := fun _ => ⟨w.heap.size, 0, rfl, by simp, fun i x hx j hj => by
  obtain rfl : j = 0 := by omega
  have hb := (box_new w #[.int .i64 a, .int .i64 b] 3).cell (0 + i * 1 + 0)
  rw [hb]
  rcases i with _ | _ | i
  all_goals simp at hx
  all_goals (try subst hx)
  all_goals rfl⟩

/-! What a text is the text of. -/
def node0 : Nd := ⟨0, 0, 0, hole, 0, 0⟩
def NodeG (s : ByteArray) (n : Nd) (b : Bool) : Prop :=
  (b = true ∧ nodeB n = true ∧ recL (nodeF n) = s.data.toList) ∨ (b = false ∧ n = node0 ∧ ∀ m, nodeB m = true → recL (nodeF m) ≠ s.data.toList)
theorem decT_inj {a b : Int} (h0 : 0 ≤ a) (h1 : 0 ≤ b) (h : decT a = decT b) : a = b := by
  refine decL_inj h0 h1 ?_
  rw [← decT_data a, h, decT_data]
theorem ptrT_data {p : Pt} (h : ptrB p = true) : (ptrT p).data.toList = ptrL p := by rw [ptrT, if_pos h, ofL_data]
theorem ptrT_inj {p q : Pt} (hp : ptrB p = true) (hq : ptrB q = true) (h : ptrT p = ptrT q) : p = q := by
  refine ptrL_inj hp hq ?_
  rw [← ptrT_data hp, h, ptrT_data hq]
theorem nodeF_inj {n m : Nd} (hn : nodeB n = true) (hm : nodeB m = true) (h : nodeF n = nodeF m) : n = m := by
  obtain ⟨b1, b2, b3, b4, b5, b6, b7, b8, b9, b10, b11⟩ := node_bounds hn
  obtain ⟨c1, c2, c3, c4, c5, c6, c7, c8, c9, c10, c11⟩ := node_bounds hm
  simp only [nodeF, List.cons.injEq, and_true] at h
  obtain ⟨e1, e2, e3, e4, e5, e6⟩ := h
  have k1 := decT_inj (by omega) (by omega) e1
  have k2 := decT_inj (by omega) (by omega) e2
  have k3 := decT_inj (by omega) (by omega) e3
  have k4 := ptrT_inj b11 c11 e4
  have k5 := decT_inj (by omega) (by omega) e5
  have k6 := decT_inj (by omega) (by omega) e6
  clear e1 e2 e3 e4 e5 e6 b1 b2 b3 b4 b5 b6 b7 b8 b9 b10 b11 c1 c2 c3 c4 c5 c6 c7 c8 c9 c10 c11 hn hm
  obtain ⟨a, b, c, d, e, f⟩ := n
  obtain ⟨a', b', c', d', e', f'⟩ := m
  dsimp only at k1 k2 k3 k4 k5 k6
  subst k1 k2 k3 k4 k5 k6
  rfl
theorem nodeG_one {s : ByteArray} {n n' : Nd} {b b' : Bool} (h : NodeG s n b) (h' : NodeG s n' b') : b = b' ∧ n = n' := by
  rcases h with ⟨rfl, h1, h2⟩ | ⟨rfl, rfl, h1⟩
  · rcases h' with ⟨rfl, h1', h2'⟩ | ⟨rfl, rfl, h1'⟩
    · exact ⟨rfl, nodeF_inj h1 h1' (recL_inj (h2.trans h2'.symm))⟩
    · exact absurd h2 (h1' n h1)
  · rcases h' with ⟨rfl, h1', h2'⟩ | ⟨rfl, rfl, h1'⟩
    · exact absurd h2' (h1 n' h1')
    · exact ⟨rfl, rfl⟩

end Go.Proofs.YthedmiippfpbnaaGreatDoor
