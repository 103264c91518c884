/- A struct's fields, out of its reading. -/
import Derived.Test.YtamljoffmkcbnaaLaw
import Derived.ChangeSlices
namespace Go.Proofs.Ytamljoffmkcbnaa
open Go.RowKit Go.ChangeShapes Go.WideShapes Go.ChangeAt
set_option maxRecDepth 100000
set_option linter.unusedVariables false

theorem trod_field {H : Type} {enc : TypeId × Value → H} {P : Program} {w : World} {base : Nat} {spare : Nat → Bool} {held : Bool} {fuel : Nat} {t : TypeId} {fs : Array Field} {cs : List Value} {x : DataW H × List MemPlace} (ht : P.underlying t = some (.struct fs)) (h : DataW.trod enc P w base spare held fuel t cs = some x) (i : Nat) (f : Field) (hf : fs[i]? = some f) :
    ∃ n y, DataW.trod enc P w base spare held n f.type ((cs.drop f.offset).take (P.cellsOf f.type)) = some y := by
  obtain ⟨xs, n, _, _, _, hlen, hg⟩ := DataW.trod_struct ht h
  have hi : i < xs.length := by
    rw [hlen]
    rcases Nat.lt_or_ge i fs.size with h' | h'
    · exact h'
    · rw [Array.getElem?_eq_none h'] at hf; cases hf
  exact ⟨n, xs[i], by rw [hg i f hf]; exact List.getElem?_eq_getElem hi⟩

theorem trod_at {H : Type} {enc : TypeId × Value → H} {P : Program} {w : World} {base : Nat} {spare : Nat → Bool} {held : Bool} {fuel : Nat} {t : TypeId} {fs : Array Field} {cs : List Value} {x : DataW H × List MemPlace} (ht : P.underlying t = some (.struct fs)) (h : DataW.trod enc P w base spare held fuel t cs = some x) (i : Nat) {f : Field} (hf : fs[i]? = some f) {T off c : Nat} (hT : f.type = T) (ho : f.offset = off) (hc : P.cellsOf T = c) {cs' : List Value} (hcs : (cs.drop off).take c = cs') :
    ∃ n y, DataW.trod enc P w base spare held n T cs' = some y := by
  obtain ⟨n, y, h⟩ := trod_field ht h i f hf
  rw [hT, hc, ho, hcs] at h
  exact ⟨n, y, h⟩

end Go.Proofs.Ytamljoffmkcbnaa
