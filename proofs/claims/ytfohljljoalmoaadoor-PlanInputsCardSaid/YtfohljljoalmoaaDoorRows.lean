/-
  NARROWER THAN 'FOR EVERY INPUT', by the rows' own cells (each row's printed sentence says how): PlanOrder: laid · PlanInputs: laid · PlanBelow: laid · PlanGrows: laid.
  DERIVED. THE GIVEN ROWS OF THIS SEAT. 4 by the template 'for every input the law returns true; each argument reads behind the call as it read before'; 0 by the template 'total and deterministic' (their statements: YtfohljljoalmoaaDoorTotals.lean).
  GIVEN WITH THE SEED: the statements are not yours to turn. If you find one false, say at which input.
  Laid BY PROGRAM, IN A SANDBOX (cutbox-rows.mjs): the forced cells as the released guide's own fill.sh prints them over the translation 935c0fed72704856… (all of the seat's roots in one cut). By AI agents, Wed Nov 11 2026. No macro, syntax, notation, axiom, sorry.
-/
import Derived.Test.YtfohljljoalmoaaDoorChecked
import GoSem.PinnedTables
import GoSem.Claim
import GoSem.ClaimJoined
import GoSem.ClaimMapViews
import Derived.JoinedTies
import Derived.KernelRfl
namespace Go.Proofs.YtfohljljoalmoaaDoor
/- THE CELL 'sum', in the pinned program and in every row, IS THE sha256 OF THE DUMP (.gsa) THAT YtfohljljoalmoaaDoorProg.lean LOADS. Nothing in Lean hashes anything: it is a label: what it is worth is what the hold of that sum in a sandbox is worth. -/
noncomputable def Tryd.pinned : Pinned := { name := "ytfohljljoalmoaadoor", sum := "935c0fed727048564b5e7fe0d23d6f3889dc0d70c595a5f65583783299b448fe", checked := Tryd.checked }
namespace Rows
def none {H : Type} : Left H := { results := [], args := [] }

/- WHAT THE LISTED PACKAGE-LEVEL VARIABLES READ AS WHEN THE CALL BEGINS. Each datum BY PROGRAM (the guide's laid-datum.mjs) off the statement by which the dump's own 'gosem.cut.vars' lays the variable. In a bare row this is a premise. The card (YtfohljljoalmoaaDoorCards.lean) ties it to the program's text. -/
def laid_unicode_utf8_acceptRanges {H : Type} : DataW H := .agg [.agg [.lit (.int .u8 128), .lit (.int .u8 191)], .agg [.lit (.int .u8 160), .lit (.int .u8 191)], .agg [.lit (.int .u8 128), .lit (.int .u8 159)], .agg [.lit (.int .u8 144), .lit (.int .u8 191)], .agg [.lit (.int .u8 128), .lit (.int .u8 143)], .agg [.lit (.int .u8 0), .lit (.int .u8 0)], .agg [.lit (.int .u8 0), .lit (.int .u8 0)], .agg [.lit (.int .u8 0), .lit (.int .u8 0)], .agg [.lit (.int .u8 0), .lit (.int .u8 0)], .agg [.lit (.int .u8 0), .lit (.int .u8 0)], .agg [.lit (.int .u8 0), .lit (.int .u8 0)], .agg [.lit (.int .u8 0), .lit (.int .u8 0)], .agg [.lit (.int .u8 0), .lit (.int .u8 0)], .agg [.lit (.int .u8 0), .lit (.int .u8 0)], .agg [.lit (.int .u8 0), .lit (.int .u8 0)], .agg [.lit (.int .u8 0), .lit (.int .u8 0)]]
def laid_murmuration_program_fields {H : Type} : DataW H := .agg [.lit (.string []), .lit (.string [112, 112, 46, 46, 46]), .lit (.string [112, 112, 112, 46, 46]), .lit (.string [112, 112, 46, 110, 110]), .lit (.string [112, 87, 119, 46, 46]), .lit (.string [112, 46, 46, 46, 46]), .lit (.string [112, 112, 46, 46, 46]), .lit (.string [112, 112, 46, 46, 46]), .lit (.string [46, 46, 46, 106, 46]), .lit (.string [112, 46, 46, 106, 46]), .lit (.string [112, 112, 46, 106, 46]), .lit (.string [46, 46, 46, 46, 46])]
/-- One of Go's own tables, pinned by name: the form's constant. -/
def laid_unicode_utf8_first : DataW Unit := Go.Pinned.utf8First

/-- 'murmurationlaw16.PlanOrder': WHATEVER THE INPUT: true; the input reads as it did. -/
def planOrderSpec : ChangeSpec := { name := "planOrder", fn := fun _ => fun
  | [d1, d2, d3, d4] => { results := [.lit (.bool true)], args := [d1, d2, d3, d4] }
  | _ => none }
def planOrderRow : OpenClaim := { program := "ytfohljljoalmoaadoor", sum := "935c0fed727048564b5e7fe0d23d6f3889dc0d70c595a5f65583783299b448fe", func := "murmuration/murmurationlaw16.PlanOrder", spec := "planOrder", inPlace := ["internal/bytealg.IndexByteString", "internal/bytealg.IndexString"], unfollowed := true, recurses := true, named := ["unicode/utf8.first", "unicode/utf8.acceptRanges", "murmuration/program.fields", "internal/bytealg.MaxLen"], apart := false, laid := [("unicode/utf8.acceptRanges", laid_unicode_utf8_acceptRanges), ("murmuration/program.fields", laid_murmuration_program_fields), ("unicode/utf8.first", laid_unicode_utf8_first)] }
def PlanOrderSaid : Prop := planOrderRow.holds Tryd.pinned (OpenSpec.ofChange planOrderSpec)

/-- ITS FALSE NEIGHBOUR: 'it returns false'. Refute it at one input. -/
def planOrderWrong : ChangeSpec := { name := "planOrder", fn := fun _ => fun
  | [d1, d2, d3, d4] => { results := [.lit (.bool false)], args := [d1, d2, d3, d4] }
  | _ => none }
def PlanOrderWrongFalsely : Prop := planOrderRow.holds Tryd.pinned (OpenSpec.ofChange planOrderWrong)

/-- 'murmurationlaw16.PlanInputs': WHATEVER THE INPUT: true; the input reads as it did. -/
def planInputsSpec : ChangeSpec := { name := "planInputs", fn := fun _ => fun
  | [d1, d2, d3] => { results := [.lit (.bool true)], args := [d1, d2, d3] }
  | _ => none }
def planInputsRow : OpenClaim := { program := "ytfohljljoalmoaadoor", sum := "935c0fed727048564b5e7fe0d23d6f3889dc0d70c595a5f65583783299b448fe", func := "murmuration/murmurationlaw16.PlanInputs", spec := "planInputs", inPlace := ["internal/bytealg.IndexByteString", "internal/bytealg.IndexString"], unfollowed := true, recurses := true, named := ["unicode/utf8.first", "unicode/utf8.acceptRanges", "murmuration/program.fields", "internal/bytealg.MaxLen"], apart := false, laid := [("unicode/utf8.acceptRanges", laid_unicode_utf8_acceptRanges), ("murmuration/program.fields", laid_murmuration_program_fields), ("unicode/utf8.first", laid_unicode_utf8_first)] }
def PlanInputsSaid : Prop := planInputsRow.holds Tryd.pinned (OpenSpec.ofChange planInputsSpec)

/-- ITS FALSE NEIGHBOUR: 'it returns false'. Refute it at one input. -/
def planInputsWrong : ChangeSpec := { name := "planInputs", fn := fun _ => fun
  | [d1, d2, d3] => { results := [.lit (.bool false)], args := [d1, d2, d3] }
  | _ => none }
def PlanInputsWrongFalsely : Prop := planInputsRow.holds Tryd.pinned (OpenSpec.ofChange planInputsWrong)

/-- 'murmurationlaw16.PlanBelow': WHATEVER THE INPUT: true; the input reads as it did. -/
def planBelowSpec : ChangeSpec := { name := "planBelow", fn := fun _ => fun
  | [d1, d2, d3] => { results := [.lit (.bool true)], args := [d1, d2, d3] }
  | _ => none }
def planBelowRow : OpenClaim := { program := "ytfohljljoalmoaadoor", sum := "935c0fed727048564b5e7fe0d23d6f3889dc0d70c595a5f65583783299b448fe", func := "murmuration/murmurationlaw16.PlanBelow", spec := "planBelow", inPlace := ["internal/bytealg.IndexByteString", "internal/bytealg.IndexString"], unfollowed := true, recurses := true, named := ["unicode/utf8.first", "unicode/utf8.acceptRanges", "murmuration/program.fields", "internal/bytealg.MaxLen"], apart := false, laid := [("unicode/utf8.acceptRanges", laid_unicode_utf8_acceptRanges), ("murmuration/program.fields", laid_murmuration_program_fields), ("unicode/utf8.first", laid_unicode_utf8_first)] }
def PlanBelowSaid : Prop := planBelowRow.holds Tryd.pinned (OpenSpec.ofChange planBelowSpec)

/-- ITS FALSE NEIGHBOUR: 'it returns false'. Refute it at one input. -/
def planBelowWrong : ChangeSpec := { name := "planBelow", fn := fun _ => fun
  | [d1, d2, d3] => { results := [.lit (.bool false)], args := [d1, d2, d3] }
  | _ => none }
def PlanBelowWrongFalsely : Prop := planBelowRow.holds Tryd.pinned (OpenSpec.ofChange planBelowWrong)

/-- 'murmurationlaw16.PlanGrows': WHATEVER THE INPUT: true; the input reads as it did. -/
def planGrowsSpec : ChangeSpec := { name := "planGrows", fn := fun _ => fun
  | [d1, d2, d3, d4, d5] => { results := [.lit (.bool true)], args := [d1, d2, d3, d4, d5] }
  | _ => none }
def planGrowsRow : OpenClaim := { program := "ytfohljljoalmoaadoor", sum := "935c0fed727048564b5e7fe0d23d6f3889dc0d70c595a5f65583783299b448fe", func := "murmuration/murmurationlaw16.PlanGrows", spec := "planGrows", inPlace := ["internal/bytealg.IndexByteString", "internal/bytealg.IndexString", "slices.overlaps[murmuration/api.File]"], unfollowed := true, recurses := true, named := ["unicode/utf8.first", "unicode/utf8.acceptRanges", "murmuration/program.fields", "internal/bytealg.MaxLen"], apart := false, laid := [("unicode/utf8.acceptRanges", laid_unicode_utf8_acceptRanges), ("murmuration/program.fields", laid_murmuration_program_fields), ("unicode/utf8.first", laid_unicode_utf8_first)] }
def PlanGrowsSaid : Prop := planGrowsRow.holds Tryd.pinned (OpenSpec.ofChange planGrowsSpec)

/-- ITS FALSE NEIGHBOUR: 'it returns false'. Refute it at one input. -/
def planGrowsWrong : ChangeSpec := { name := "planGrows", fn := fun _ => fun
  | [d1, d2, d3, d4, d5] => { results := [.lit (.bool false)], args := [d1, d2, d3, d4, d5] }
  | _ => none }
def PlanGrowsWrongFalsely : Prop := planGrowsRow.holds Tryd.pinned (OpenSpec.ofChange planGrowsWrong)

/- THE SECOND FORM. 'bulk': how many values and letters a reading holds, each counted each time it is reached (what is shared counts as often as it is met; a slice's spare places count too). A statement '..UptoSaid' is the law's where the arguments, and the package variables that the reading takes, are together of bulk at most 1048576: NARROWER than '..Said'. Prove '..Said' where nothing that the law and all that it calls make is longer than what came in: it says more and counts as full. Else prove '..UptoSaid'. A law counts once. -/
mutual
def uptoBulk {H : Type} : DataW H → Nat
  | .lit (.string bytes) => bytes.length + 1
  | .lit _ => 1
  | .nil => 1
  | .ptr d => uptoBulk d + 1
  | .slice elems spare => uptoBulkAll elems + uptoBulkAll spare + 1
  | .agg parts => uptoBulkAll parts + 1
  | .iface _ d => uptoBulk d + 1
  | .map entries => uptoBulkEntries entries + 1
  | .held _ => 1
def uptoBulkAll {H : Type} : List (DataW H) → Nat
  | [] => 0
  | d :: r => uptoBulk d + uptoBulkAll r
def uptoBulkEntries {H : Type} : List (Lit × DataW H) → Nat
  | [] => 0
  | x :: r => uptoBulkEntry x + uptoBulkEntries r
def uptoBulkEntry {H : Type} : Lit × DataW H → Nat
  | (.string bytes, d) => bytes.length + uptoBulk d + 1
  | (_, d) => uptoBulk d + 1
 end
def uptoSmall : (H : Type) → List (DataW H) → Bool := fun _ ds => decide (uptoBulkAll ds ≤ 1048576)
def OpenSpec.upto (s : _root_.Go.ChangeSpec) : _root_.Go.OpenSpec := { _root_.Go.OpenSpec.ofChange s with cond := some uptoSmall }

/-- 'murmurationlaw16.PlanOrder', WHERE WHAT IT READS IS OF BULK AT MOST 1048576: true; the input reads as it did. -/
def planOrderUptoRow : OpenClaim := { program := "ytfohljljoalmoaadoor", sum := "935c0fed727048564b5e7fe0d23d6f3889dc0d70c595a5f65583783299b448fe", func := "murmuration/murmurationlaw16.PlanOrder", spec := "planOrder", inPlace := ["internal/bytealg.IndexByteString", "internal/bytealg.IndexString"], unfollowed := true, recurses := true, named := ["unicode/utf8.first", "unicode/utf8.acceptRanges", "murmuration/program.fields", "internal/bytealg.MaxLen"], apart := false, laid := [("unicode/utf8.acceptRanges", laid_unicode_utf8_acceptRanges), ("murmuration/program.fields", laid_murmuration_program_fields), ("unicode/utf8.first", laid_unicode_utf8_first)], narrowed := true }
def PlanOrderUptoSaid : Prop := planOrderUptoRow.holds Tryd.pinned (OpenSpec.upto planOrderSpec)

/-- 'murmurationlaw16.PlanInputs', WHERE WHAT IT READS IS OF BULK AT MOST 1048576: true; the input reads as it did. -/
def planInputsUptoRow : OpenClaim := { program := "ytfohljljoalmoaadoor", sum := "935c0fed727048564b5e7fe0d23d6f3889dc0d70c595a5f65583783299b448fe", func := "murmuration/murmurationlaw16.PlanInputs", spec := "planInputs", inPlace := ["internal/bytealg.IndexByteString", "internal/bytealg.IndexString"], unfollowed := true, recurses := true, named := ["unicode/utf8.first", "unicode/utf8.acceptRanges", "murmuration/program.fields", "internal/bytealg.MaxLen"], apart := false, laid := [("unicode/utf8.acceptRanges", laid_unicode_utf8_acceptRanges), ("murmuration/program.fields", laid_murmuration_program_fields), ("unicode/utf8.first", laid_unicode_utf8_first)], narrowed := true }
def PlanInputsUptoSaid : Prop := planInputsUptoRow.holds Tryd.pinned (OpenSpec.upto planInputsSpec)

/-- 'murmurationlaw16.PlanBelow', WHERE WHAT IT READS IS OF BULK AT MOST 1048576: true; the input reads as it did. -/
def planBelowUptoRow : OpenClaim := { program := "ytfohljljoalmoaadoor", sum := "935c0fed727048564b5e7fe0d23d6f3889dc0d70c595a5f65583783299b448fe", func := "murmuration/murmurationlaw16.PlanBelow", spec := "planBelow", inPlace := ["internal/bytealg.IndexByteString", "internal/bytealg.IndexString"], unfollowed := true, recurses := true, named := ["unicode/utf8.first", "unicode/utf8.acceptRanges", "murmuration/program.fields", "internal/bytealg.MaxLen"], apart := false, laid := [("unicode/utf8.acceptRanges", laid_unicode_utf8_acceptRanges), ("murmuration/program.fields", laid_murmuration_program_fields), ("unicode/utf8.first", laid_unicode_utf8_first)], narrowed := true }
def PlanBelowUptoSaid : Prop := planBelowUptoRow.holds Tryd.pinned (OpenSpec.upto planBelowSpec)

/-- 'murmurationlaw16.PlanGrows', WHERE WHAT IT READS IS OF BULK AT MOST 1048576: true; the input reads as it did. -/
def planGrowsUptoRow : OpenClaim := { program := "ytfohljljoalmoaadoor", sum := "935c0fed727048564b5e7fe0d23d6f3889dc0d70c595a5f65583783299b448fe", func := "murmuration/murmurationlaw16.PlanGrows", spec := "planGrows", inPlace := ["internal/bytealg.IndexByteString", "internal/bytealg.IndexString", "slices.overlaps[murmuration/api.File]"], unfollowed := true, recurses := true, named := ["unicode/utf8.first", "unicode/utf8.acceptRanges", "murmuration/program.fields", "internal/bytealg.MaxLen"], apart := false, laid := [("unicode/utf8.acceptRanges", laid_unicode_utf8_acceptRanges), ("murmuration/program.fields", laid_murmuration_program_fields), ("unicode/utf8.first", laid_unicode_utf8_first)], narrowed := true }
def PlanGrowsUptoSaid : Prop := planGrowsUptoRow.holds Tryd.pinned (OpenSpec.upto planGrowsSpec)

end Rows
end Go.Proofs.YtfohljljoalmoaaDoor
