/- Entries, in plain Lean: what a list of entries is; no program in sight. -/
import Derived.Test.YthedmiippfpbnaaGreatDoorNames
import Derived.Test.YthedmiippfpbnaaGreatDoorSlice
namespace Go.Proofs.YthedmiippfpbnaaGreatDoor
open Go.RowKit
set_option linter.unusedVariables false

structure Ent where
  name : ByteArray
  id : Int
def zeroE : Ent := ⟨ByteArray.empty, 0⟩
def encE (e : Ent) : Nat → Value
  | 0 => .string e.name
  | _ => .int .i64 e.id

/-- One text lies before another. -/
def ltB (a b : ByteArray) : Bool := Op.bytesLess a.toList b.toList

def prevLt : Option ByteArray → ByteArray → Bool
  | none, _ => true
  | some q, b => ltB q b
/-- All entries of a list are entries, each behind the one before it. -/
def okFrom : Option ByteArray → List Ent → Bool
  | _, [] => true
  | p, e :: r => nameB e.name && (inB e.id 1 15 && (prevLt p e.name && okFrom (some e.name) r))
def entriesOkB (l : List Ent) : Bool := okFrom none l && decide (l.length ≤ 12)

def prevOf (l : List Ent) : Nat → Option ByteArray
  | 0 => none
  | k + 1 => (l[k]?).map (·.name)

theorem okFrom_step {l : List Ent} {k : Nat} {e : Ent} (h : l[k]? = some e) :
    okFrom (prevOf l k) (l.drop k) = (nameB e.name && (inB e.id 1 15 && (prevLt (prevOf l k) e.name && okFrom (prevOf l (k + 1)) (l.drop (k + 1))))) := by
  have hk : k < l.length := by
    rcases Nat.lt_or_ge k l.length with h' | h'
    · exact h'
    · rw [List.getElem?_eq_none h'] at h; cases h
  have e1 : l[k] = e := by rw [List.getElem?_eq_getElem hk] at h; exact Option.some.inj h
  rw [List.drop_eq_getElem_cons hk, e1]
  simp [okFrom, prevOf, h]

/-- What is still to be asked from place k on. -/
def restOk (l : List Ent) (k : Nat) : Prop := entriesOkB l = (okFrom (prevOf l k) (l.drop k) && decide (l.length ≤ 12))
theorem restOk_zero (l : List Ent) : restOk l 0 := by simp [restOk, entriesOkB, prevOf]
theorem restOk_end {l : List Ent} (h : restOk l l.length) : entriesOkB l = decide (l.length ≤ 12) := by
  rw [h]
  simp [okFrom]
theorem restOk_name {l : List Ent} {k : Nat} {e : Ent} (h : restOk l k) (he : l[k]? = some e) (hn : nameB e.name = false) : entriesOkB l = false := by
  rw [h, okFrom_step he, hn]; simp
theorem restOk_id {l : List Ent} {k : Nat} {e : Ent} (h : restOk l k) (he : l[k]? = some e) (hn : inB e.id 1 15 = false) : entriesOkB l = false := by
  rw [h, okFrom_step he, hn]; simp
theorem restOk_lt {l : List Ent} {k : Nat} {e d : Ent} (h : restOk l (k + 1)) (hd : l[k]? = some d) (he : l[k + 1]? = some e) (hn : ltB d.name e.name = false) : entriesOkB l = false := by
  rw [h, okFrom_step he]
  simp [prevOf, hd, prevLt, hn]
theorem restOk_first {l : List Ent} {e : Ent} (h : restOk l 0) (he : l[0]? = some e) (h1 : nameB e.name = true) (h2 : inB e.id 1 15 = true) : restOk l 1 := by
  unfold restOk at h ⊢
  rw [h, okFrom_step he, h1, h2]
  simp [prevOf, prevLt]
theorem restOk_next {l : List Ent} {k : Nat} {e d : Ent} (h : restOk l (k + 1)) (hd : l[k]? = some d) (he : l[k + 1]? = some e) (h1 : nameB e.name = true) (h2 : inB e.id 1 15 = true) (h3 : ltB d.name e.name = true) : restOk l (k + 2) := by
  unfold restOk at h ⊢
  rw [h, okFrom_step he, h1, h2]
  simp [prevOf, hd, prevLt, h3]

end Go.Proofs.YthedmiippfpbnaaGreatDoor
