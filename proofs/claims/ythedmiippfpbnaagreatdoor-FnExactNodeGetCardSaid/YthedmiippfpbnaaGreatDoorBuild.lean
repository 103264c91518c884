/- A strings.Builder that a call made itself: written, counted, read; by the kit's contracts. -/
import Derived.Test.YthedmiippfpbnaaGreatDoorShelf
import Derived.Test.YthedmiippfpbnaaGreatDoorTextPlain
import Derived.Lib.UnsafeStr
namespace Go.Proofs.YthedmiippfpbnaaGreatDoor
open Go.RowKit Go.Shelf
set_option maxRecDepth 100000
set_option linter.unusedVariables false

/-- The builder at block b holds the bytes l. -/
def BuildAt (B b : Nat) (l : List UInt8) (w : World) : Prop := Lib.IsBuilderF 75 5 B b (Lib.byteCells l) w ∧ B ≤ w.heap.size
theorem ownsRowF_below {w w' : World} {base : Nat} {e : TypeId} {size : Nat} {v : Value} {n : Nat} {xs : List Value} (h : w.ownsRowF base e size v n xs) (hb : Below w.heap.size w w') : w'.ownsRowF base e size v n xs :=
  h.kept (row := none) ⟨hb.os, hb.tape, hb.output, hb.size, fun k hk _ => hb.block k hk⟩ (by cases hv : v.ownBlock <;> simp)
theorem BuildAt.below {B b : Nat} {l : List UInt8} {w w' : World} (h : BuildAt B b l w) (hb : Below w.heap.size w w') : BuildAt B b l w' := by
  obtain ⟨h, hB⟩ := h
  refine ⟨?_, Nat.le_trans hB hb.size⟩
  have one : ∀ p, Lib.BuilderAtF 75 5 B b p (Lib.byteCells l) w → Lib.BuilderAtF 75 5 B b p (Lib.byteCells l) w' := fun p hp => by
    have hlt := hp.lt
    obtain ⟨h1, v, h2, h3, h4⟩ := hp
    exact ⟨h1, v, (hb.block b hlt).trans h2, ownsRowF_below h3 hb, h4⟩
  exact h.elim (fun x => .inl (one _ x)) (fun x => .inr (one _ x))
theorem build_new (w : World) : BuildAt w.heap.size w.heap.size [] (w.alloc (.cells #[.pointer none, .slice none 0 0] 75)) :=
  ⟨Lib.IsBuilderF.of (Lib.fresh_isBuilder _ _ _), by rw [World.size_alloc]; omega⟩
theorem BuildAt.lt {B b : Nat} {l : List UInt8} {w : World} (h : BuildAt B b l w) : b < w.heap.size := h.1.elim (fun x => x.lt) (fun x => x.lt)
theorem writeString_any {B b : Nat} {l : List UInt8} {w : World} (s : ByteArray) (h : BuildAt B b l w) (hl : l.length + s.size ≤ 140737488355328) :
    Calls Tryz.prog 53 #[.pointer (some ⟨b, 0, none⟩), .string s] w fun e w' => e = .returned (.tuple #[.int .i64 s.size, .nilIface]) ∧ BuildAt B b (l ++ s.data.toList) w' ∧ Below B w w' :=
  (Any.Builder_WriteString_k { Tryz.lays156 with } Tryz.Builder_Extra_156 B b (Lib.byteCells l) s w h.1 (by rw [Lib.byteCells_length]; exact hl) h.2).mono fun e w' ⟨he, h1, h2, _⟩ =>
    ⟨he, ⟨.inr (by rw [Lib.byteCells_append, ← Lib.strCells_eq]; exact h1), Nat.le_trans h.2 h2.size⟩, h2⟩
theorem buildString_any {B b : Nat} {l : List UInt8} {w : World} (h : BuildAt B b l w) :
    Calls Tryz.prog 56 #[.pointer (some ⟨b, 0, none⟩)] w fun e w' => e = .returned (.string (ofL l)) ∧ BuildAt B b l w' ∧ Below B w w' :=
  (Tryz.Builder_String_any_k B b l w h.1 h.2).mono fun e w' ⟨he, h1, h2, _⟩ => ⟨he, ⟨h1, Nat.le_trans h.2 h2.size⟩, h2⟩
theorem buildLen_any {B b : Nat} {l : List UInt8} {w : World} (h : BuildAt B b l w) :
    Calls Tryz.prog 55 #[.pointer (some ⟨b, 0, none⟩)] w fun e w' => e = .returned (.int .i64 l.length) ∧ w' = w :=
  (Tryz.Builder_Len_f B b (Lib.byteCells l) w h.1).mono fun e w' ⟨he, h1⟩ => ⟨by rw [he, Lib.byteCells_length], h1⟩
def renB : Ren := ⟨fun n => if n = 167 then 54 else Tryz.lays156_ren.f n, Tryz.lays156_ren.t, Tryz.lays156_ren.g⟩
theorem layW : Go.Proofs.Lays.n167 Tryz.prog renB := {
  mixed := Tryz.lays156.mixed
  f167 := Tryz.func54.trans (congrArg some (by kernel_rfl))
  f240 := Tryz.func67.trans (congrArg some (by kernel_rfl))
  f276 := Tryz.func79.trans (congrArg some (by kernel_rfl))
  t0 := Tryz.lays156.t0
  a0 := Tryz.lays156.a0
  z0 := Tryz.lays156.z0
  v0 := Tryz.lays156.v0
  t4 := Tryz.lays156.t4
  a4 := Tryz.lays156.a4
  z4 := Tryz.lays156.z4
  v4 := Tryz.lays156.v4
  t5 := Tryz.Builder_Extra_156.t5
  a5 := Tryz.Builder_Extra_156.a5
  z5 := Tryz.Builder_Extra_156.z5
  v5 := Tryz.Builder_Extra_156.v5
  t9 := Tryz.lays156.t9
  a9 := Tryz.lays156.a9
  z9 := Tryz.lays156.z9
  v9 := Tryz.lays156.v9
  t20 := Tryz.lays156.t20
  a20 := Tryz.lays156.a20
  z20 := Tryz.lays156.z20
  v20 := Tryz.lays156.v20
  t37 := Tryz.lays156.t37
  a37 := Tryz.lays156.a37
  z37 := Tryz.lays156.z37
  v37 := Tryz.lays156.v37
  t70 := Tryz.lays156.t70
  a70 := Tryz.lays156.a70
  z70 := Tryz.lays156.z70
  v70 := Tryz.lays156.v70
  t72 := Tryz.lays156.t72
  a72 := Tryz.lays156.a72
  z72 := Tryz.lays156.z72
  v72 := Tryz.lays156.v72
  t75 := Tryz.lays156.t75
  a75 := Tryz.lays156.a75
  z75 := Tryz.lays156.z75
  v75 := Tryz.lays156.v75
  t164 := Tryz.lays156.t164
  a164 := Tryz.lays156.a164
  z164 := Tryz.lays156.z164
  v164 := Tryz.lays156.v164 }
theorem extW : Builder.Extra Tryz.prog renB := {
  sizeBuilder := Tryz.Builder_Extra_156.sizeBuilder
  liesBuilder := Tryz.Builder_Extra_156.liesBuilder
  t5 := Tryz.Builder_Extra_156.t5
  a5 := Tryz.Builder_Extra_156.a5
  z5 := Tryz.Builder_Extra_156.z5
  v5 := Tryz.Builder_Extra_156.v5
  infoByte := Tryz.Builder_Extra_156.infoByte
  cellsByte := Tryz.Builder_Extra_156.cellsByte
  sizeByte := Tryz.Builder_Extra_156.sizeByte
  neB5 := Tryz.Builder_Extra_156.neB5 }
theorem writeByte_any {B b : Nat} {l : List UInt8} {w : World} (c : UInt8) (h : BuildAt B b l w) (hl : l.length + 1 ≤ 140737488355328) :
    Calls Tryz.prog 54 #[.pointer (some ⟨b, 0, none⟩), .int .u8 (c.toNat : Int)] w fun e w' => e = .returned .nilIface ∧ BuildAt B b (l ++ [c]) w' ∧ Below B w w' :=
  (Any.Builder_WriteByte_k layW extW B b (Lib.byteCells l) (c.toNat : Int) w h.1 (by rw [Lib.byteCells_length]; exact hl) h.2).mono fun e w' ⟨he, h1, h2, _⟩ =>
    ⟨he, ⟨.inr (by rw [Lib.byteCells_append]; exact h1), Nat.le_trans h.2 h2.size⟩, h2⟩

end Go.Proofs.YthedmiippfpbnaaGreatDoor
