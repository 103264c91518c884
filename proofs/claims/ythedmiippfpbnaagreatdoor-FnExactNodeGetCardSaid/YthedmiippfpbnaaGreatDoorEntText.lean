/- The text of entries: both texts' walks. -/
import Derived.Test.YthedmiippfpbnaaGreatDoorNum
import Derived.Test.YthedmiippfpbnaaGreatDoorBuild
import Derived.Test.YthedmiippfpbnaaGreatDoorEntOk
import Derived.Test.YthedmiippfpbnaaGreatDoorPathSpec
namespace Go.Proofs.YthedmiippfpbnaaGreatDoor
open Go.RowKit Go.Sort
set_option maxRecDepth 100000
set_option linter.unusedVariables false
set_option linter.unusedSimpArgs false
attribute [local go_sem ↓] Go.wp_at_zero Go.wp_at_succ

theorem ents_step {es : List Ent} {k : Nat} {e : Ent} (h : es[k]? = some e) : entsL (es.take (k + 1)) = entsL (es.take k) ++ entL e := by
  rw [List.take_add_one, h, entsL_app]
  simp [entsL]
/-- The text so far, and what comes to it at an entry. -/
theorem ents_next {es : List Ent} {k : Nat} {nm : ByteArray} {n : Nat} (h : es[k]? = some ⟨nm, (n : Int)⟩) : ofL (entsL (es.take k)) ++ nm ++ ⟨#[61]⟩ ++ decT (n : Int) ++ ⟨#[59]⟩ = ofL (entsL (es.take (k + 1))) := by
  refine ofL_ext ?_
  rw [ofL_data, ents_step h]
  simp only [bytes_append, ofL_data, decT_data, entL]
  simp
theorem ents_take_len {es : List Ent} (hok : entriesOkB es = true) (k : Nat) : (entsL (es.take k)).length ≤ 96 := by
  obtain ⟨h1, h2⟩ := ent_ok hok
  have h3 := entsL_len (l := es.take k) (fun e he => h1 e (List.mem_of_mem_take he))
  have h4 : (es.take k).length ≤ 12 := by rw [List.length_take]; omega
  omega


end Go.Proofs.YthedmiippfpbnaaGreatDoor
