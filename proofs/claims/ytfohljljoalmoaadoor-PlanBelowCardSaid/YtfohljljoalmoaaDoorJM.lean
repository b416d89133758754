/- The tables of the plan's rows; a world for the witness. -/
import Derived.Test.YtfohljljoalmoaaDoorJL
namespace Go.Proofs.YtfohljljoalmoaaDoor
open Go.RowKit
set_option maxRecDepth 100000
set_option linter.unusedSimpArgs false
set_option linter.unusedVariables false

def laidP : List (String × DataW Unit) := [("unicode/utf8.acceptRanges", Rows.laid_unicode_utf8_acceptRanges), ("murmuration/program.fields", Rows.laid_murmuration_program_fields), ("unicode/utf8.first", Rows.laid_unicode_utf8_first)]
theorem flds_of {W : World} (h : laidMetH Tryd.prog laidP W) : FldTab W := by
  have h' : laidMet Tryd.prog laidP W := h
  exact laid_flds (Lib.laidMet.reads h' (n := "murmuration/program.fields") (d := Rows.laid_murmuration_program_fields) (by unfold laidP; simp))
def layFirst : Obj → Obj
  | .cells _ t frozen => .cells (Lib.firstTab.map fun z => Value.int .u8 z).toArray t frozen
  | o => o
def layAcc : Obj → Obj
  | .cells _ t frozen => .cells ((List.range 16).flatMap fun i => [Value.int .u8 (Lib.accLo i), Value.int .u8 (Lib.accHi i)]).toArray t frozen
  | o => o
def layFld : Obj → Obj
  | .cells _ t frozen => .cells (FLDS.map fun l => Value.string ⟨l.toArray⟩).toArray t frozen
  | o => o
noncomputable def laidHeap (os : Os) : Array Obj := Array.modify (Array.modify (Array.modify (World.holding Tryd.prog os ⟨#[], #[], []⟩).heap 1 layFirst) 2 layAcc) 0 layFld
/-- A world for the witness: the settled one, the tables holding what the text lays. -/
noncomputable def laidWorld (os : Os) : World := { World.holding Tryd.prog os ⟨#[], #[], []⟩ with heap := laidHeap os }
end Go.Proofs.YtfohljljoalmoaaDoor
