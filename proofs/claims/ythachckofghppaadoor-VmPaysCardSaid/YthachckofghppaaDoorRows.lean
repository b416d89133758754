/-
  NARROWER THAN 'FOR EVERY INPUT', by the rows' own cells (each row's printed sentence says how): VmCopies: laid · VmSorts: laid · VmPays: laid · VmIfs: laid.
  DERIVED. THE GIVEN ROWS OF THIS SEAT. 4 by the template 'for every input the law returns true; each argument reads behind the call as it read before'; 0 by the template 'total and deterministic' (their statements: YthachckofghppaaDoorTotals.lean).
  GIVEN WITH THE SEED: the statements are not yours to turn. If you find one false, say at which input.
  Laid BY PROGRAM, IN A SANDBOX (cutbox-rows.mjs): the forced cells as the released guide's own fill.sh prints them over the translation a4d16d65eb571122… (all of the seat's roots in one cut). By AI agents, Wed Nov 11 2026. No macro, syntax, notation, axiom, sorry.
-/
import Derived.Test.YthachckofghppaaDoorChecked
import GoSem.PinnedTables
import GoSem.Claim
import GoSem.ClaimJoined
import GoSem.ClaimMapViews
import Derived.JoinedTies
import Derived.KernelRfl
namespace Go.Proofs.YthachckofghppaaDoor
/- THE CELL 'sum', in the pinned program and in every row, IS THE sha256 OF THE DUMP (.gsa) THAT YthachckofghppaaDoorProg.lean LOADS. Nothing in Lean hashes anything: it is a label: what it is worth is what the hold of that sum in a sandbox is worth. -/
noncomputable def Tryd.pinned : Pinned := { name := "ythachckofghppaadoor", sum := "a4d16d65eb5711225da66541a8ccb20cdf8c5dec92d88ce381aa8dea54e3276a", checked := Tryd.checked }
namespace Rows
def none {H : Type} : Left H := { results := [], args := [] }

/- WHAT THE LISTED PACKAGE-LEVEL VARIABLES READ AS WHEN THE CALL BEGINS. Each datum BY PROGRAM (the guide's laid-datum.mjs) off the statement by which the dump's own 'gosem.cut.vars' lays the variable. In a bare row this is a premise. The card (YthachckofghppaaDoorCards.lean) ties it to the program's text. -/
def laid_unicode_utf8_acceptRanges {H : Type} : DataW H := .agg [.agg [.lit (.int .u8 128), .lit (.int .u8 191)], .agg [.lit (.int .u8 160), .lit (.int .u8 191)], .agg [.lit (.int .u8 128), .lit (.int .u8 159)], .agg [.lit (.int .u8 144), .lit (.int .u8 191)], .agg [.lit (.int .u8 128), .lit (.int .u8 143)], .agg [.lit (.int .u8 0), .lit (.int .u8 0)], .agg [.lit (.int .u8 0), .lit (.int .u8 0)], .agg [.lit (.int .u8 0), .lit (.int .u8 0)], .agg [.lit (.int .u8 0), .lit (.int .u8 0)], .agg [.lit (.int .u8 0), .lit (.int .u8 0)], .agg [.lit (.int .u8 0), .lit (.int .u8 0)], .agg [.lit (.int .u8 0), .lit (.int .u8 0)], .agg [.lit (.int .u8 0), .lit (.int .u8 0)], .agg [.lit (.int .u8 0), .lit (.int .u8 0)], .agg [.lit (.int .u8 0), .lit (.int .u8 0)], .agg [.lit (.int .u8 0), .lit (.int .u8 0)]]
def laid_murmuration_program_fields {H : Type} : DataW H := .agg [.lit (.string []), .lit (.string [112, 112, 46, 46, 46]), .lit (.string [112, 112, 112, 46, 46]), .lit (.string [112, 112, 46, 110, 110]), .lit (.string [112, 87, 119, 46, 46]), .lit (.string [112, 46, 46, 46, 46]), .lit (.string [112, 112, 46, 46, 46]), .lit (.string [112, 112, 46, 46, 46]), .lit (.string [46, 46, 46, 106, 46]), .lit (.string [112, 46, 46, 106, 46]), .lit (.string [112, 112, 46, 106, 46]), .lit (.string [46, 46, 46, 46, 46])]
/-- One of Go's own tables, pinned by name: the form's constant. -/
def laid_unicode_utf8_first : DataW Unit := Go.Pinned.utf8First

/-- 'murmurationlaw07.VmCopies': WHATEVER THE INPUT: true; the input reads as it did. -/
def vmCopiesSpec : ChangeSpec := { name := "vmCopies", fn := fun _ => fun
  | [d1, d2, d3, d4] => { results := [.lit (.bool true)], args := [d1, d2, d3, d4] }
  | _ => none }
def vmCopiesRow : OpenClaim := { program := "ythachckofghppaadoor", sum := "a4d16d65eb5711225da66541a8ccb20cdf8c5dec92d88ce381aa8dea54e3276a", func := "murmuration/murmurationlaw07.VmCopies", spec := "vmCopies", inPlace := ["slices.overlaps[murmuration/api.File]", "internal/bytealg.Count", "internal/bytealg.IndexByte", "internal/bytealg.Index", "internal/bytealg.Compare", "internal/bytealg.MakeNoZero"], unfollowed := true, recurses := true, named := ["murmuration/program.fields", "internal/bytealg.MaxLen", "unicode/utf8.first", "unicode/utf8.acceptRanges"], apart := false, laid := [("unicode/utf8.acceptRanges", laid_unicode_utf8_acceptRanges), ("murmuration/program.fields", laid_murmuration_program_fields), ("unicode/utf8.first", laid_unicode_utf8_first)] }
def VmCopiesSaid : Prop := vmCopiesRow.holds Tryd.pinned (OpenSpec.ofChange vmCopiesSpec)

/-- ITS FALSE NEIGHBOUR: 'it returns false'. Refute it at one input. -/
def vmCopiesWrong : ChangeSpec := { name := "vmCopies", fn := fun _ => fun
  | [d1, d2, d3, d4] => { results := [.lit (.bool false)], args := [d1, d2, d3, d4] }
  | _ => none }
def VmCopiesWrongFalsely : Prop := vmCopiesRow.holds Tryd.pinned (OpenSpec.ofChange vmCopiesWrong)

/-- 'murmurationlaw07.VmSorts': WHATEVER THE INPUT: true; the input reads as it did. -/
def vmSortsSpec : ChangeSpec := { name := "vmSorts", fn := fun _ => fun
  | [d1, d2, d3] => { results := [.lit (.bool true)], args := [d1, d2, d3] }
  | _ => none }
def vmSortsRow : OpenClaim := { program := "ythachckofghppaadoor", sum := "a4d16d65eb5711225da66541a8ccb20cdf8c5dec92d88ce381aa8dea54e3276a", func := "murmuration/murmurationlaw07.VmSorts", spec := "vmSorts", inPlace := ["slices.overlaps[murmuration/api.File]", "internal/bytealg.Count", "internal/bytealg.IndexByte", "internal/bytealg.Index", "internal/bytealg.Compare", "internal/bytealg.MakeNoZero"], unfollowed := true, recurses := true, named := ["murmuration/program.fields", "internal/bytealg.MaxLen", "unicode/utf8.first", "unicode/utf8.acceptRanges"], apart := false, laid := [("unicode/utf8.acceptRanges", laid_unicode_utf8_acceptRanges), ("murmuration/program.fields", laid_murmuration_program_fields), ("unicode/utf8.first", laid_unicode_utf8_first)] }
def VmSortsSaid : Prop := vmSortsRow.holds Tryd.pinned (OpenSpec.ofChange vmSortsSpec)

/-- ITS FALSE NEIGHBOUR: 'it returns false'. Refute it at one input. -/
def vmSortsWrong : ChangeSpec := { name := "vmSorts", fn := fun _ => fun
  | [d1, d2, d3] => { results := [.lit (.bool false)], args := [d1, d2, d3] }
  | _ => none }
def VmSortsWrongFalsely : Prop := vmSortsRow.holds Tryd.pinned (OpenSpec.ofChange vmSortsWrong)

/-- 'murmurationlaw07.VmPays': WHATEVER THE INPUT: true; the input reads as it did. -/
def vmPaysSpec : ChangeSpec := { name := "vmPays", fn := fun _ => fun
  | [d1, d2] => { results := [.lit (.bool true)], args := [d1, d2] }
  | _ => none }
def vmPaysRow : OpenClaim := { program := "ythachckofghppaadoor", sum := "a4d16d65eb5711225da66541a8ccb20cdf8c5dec92d88ce381aa8dea54e3276a", func := "murmuration/murmurationlaw07.VmPays", spec := "vmPays", inPlace := ["slices.overlaps[murmuration/api.File]", "internal/bytealg.Count", "internal/bytealg.IndexByte", "internal/bytealg.Index", "internal/bytealg.Compare", "internal/bytealg.MakeNoZero"], unfollowed := true, recurses := true, named := ["murmuration/program.fields", "internal/bytealg.MaxLen", "unicode/utf8.first", "unicode/utf8.acceptRanges"], apart := false, laid := [("unicode/utf8.acceptRanges", laid_unicode_utf8_acceptRanges), ("murmuration/program.fields", laid_murmuration_program_fields), ("unicode/utf8.first", laid_unicode_utf8_first)] }
def VmPaysSaid : Prop := vmPaysRow.holds Tryd.pinned (OpenSpec.ofChange vmPaysSpec)

/-- ITS FALSE NEIGHBOUR: 'it returns false'. Refute it at one input. -/
def vmPaysWrong : ChangeSpec := { name := "vmPays", fn := fun _ => fun
  | [d1, d2] => { results := [.lit (.bool false)], args := [d1, d2] }
  | _ => none }
def VmPaysWrongFalsely : Prop := vmPaysRow.holds Tryd.pinned (OpenSpec.ofChange vmPaysWrong)

/-- 'murmurationlaw07.VmIfs': WHATEVER THE INPUT: true; the input reads as it did. -/
def vmIfsSpec : ChangeSpec := { name := "vmIfs", fn := fun _ => fun
  | [d1, d2, d3, d4] => { results := [.lit (.bool true)], args := [d1, d2, d3, d4] }
  | _ => none }
def vmIfsRow : OpenClaim := { program := "ythachckofghppaadoor", sum := "a4d16d65eb5711225da66541a8ccb20cdf8c5dec92d88ce381aa8dea54e3276a", func := "murmuration/murmurationlaw07.VmIfs", spec := "vmIfs", inPlace := ["slices.overlaps[murmuration/api.File]", "internal/bytealg.Count", "internal/bytealg.IndexByte", "internal/bytealg.Index", "internal/bytealg.Compare", "internal/bytealg.MakeNoZero"], unfollowed := true, recurses := true, named := ["murmuration/program.fields", "internal/bytealg.MaxLen", "unicode/utf8.first", "unicode/utf8.acceptRanges"], apart := false, laid := [("unicode/utf8.acceptRanges", laid_unicode_utf8_acceptRanges), ("murmuration/program.fields", laid_murmuration_program_fields), ("unicode/utf8.first", laid_unicode_utf8_first)] }
def VmIfsSaid : Prop := vmIfsRow.holds Tryd.pinned (OpenSpec.ofChange vmIfsSpec)

/-- ITS FALSE NEIGHBOUR: 'it returns false'. Refute it at one input. -/
def vmIfsWrong : ChangeSpec := { name := "vmIfs", fn := fun _ => fun
  | [d1, d2, d3, d4] => { results := [.lit (.bool false)], args := [d1, d2, d3, d4] }
  | _ => none }
def VmIfsWrongFalsely : Prop := vmIfsRow.holds Tryd.pinned (OpenSpec.ofChange vmIfsWrong)

/- THE SECOND FORM. 'bulk': how many values and letters a reading holds, each counted each time it is reached (what is shared counts as often as it is met; a slice's spare places count too). A statement '..UptoSaid' is the law's where the arguments, and the package variables that the reading takes, are together of bulk at most 1048576: NARROWER than '..Said'. Prove '..Said' where nothing that the law and all that it calls make is longer than what came in: it says more and counts as full. Else prove '..UptoSaid'. A law counts once. -/
mutual
def uptoBulk {H : Type} : DataW H → Nat
  | .lit (.string bytes) => bytes.length + 1
  | .lit _ => 1
  | .nil => 1
  | .ptr d => uptoBulk d + 1
  | .slice elems spare => uptoBulkAll elems + uptoBulkAll spare + 1
  | .agg parts => uptoBulkAll parts + 1
  | .iface _ d => uptoBulk d + 1
  | .map entries => uptoBulkEntries entries + 1
  | .held _ => 1
def uptoBulkAll {H : Type} : List (DataW H) → Nat
  | [] => 0
  | d :: r => uptoBulk d + uptoBulkAll r
def uptoBulkEntries {H : Type} : List (Lit × DataW H) → Nat
  | [] => 0
  | x :: r => uptoBulkEntry x + uptoBulkEntries r
def uptoBulkEntry {H : Type} : Lit × DataW H → Nat
  | (.string bytes, d) => bytes.length + uptoBulk d + 1
  | (_, d) => uptoBulk d + 1
 end
def uptoSmall : (H : Type) → List (DataW H) → Bool := fun _ ds => decide (uptoBulkAll ds ≤ 1048576)
def OpenSpec.upto (s : _root_.Go.ChangeSpec) : _root_.Go.OpenSpec := { _root_.Go.OpenSpec.ofChange s with cond := some uptoSmall }

/-- 'murmurationlaw07.VmCopies', WHERE WHAT IT READS IS OF BULK AT MOST 1048576: true; the input reads as it did. -/
def vmCopiesUptoRow : OpenClaim := { program := "ythachckofghppaadoor", sum := "a4d16d65eb5711225da66541a8ccb20cdf8c5dec92d88ce381aa8dea54e3276a", func := "murmuration/murmurationlaw07.VmCopies", spec := "vmCopies", inPlace := ["slices.overlaps[murmuration/api.File]", "internal/bytealg.Count", "internal/bytealg.IndexByte", "internal/bytealg.Index", "internal/bytealg.Compare", "internal/bytealg.MakeNoZero"], unfollowed := true, recurses := true, named := ["murmuration/program.fields", "internal/bytealg.MaxLen", "unicode/utf8.first", "unicode/utf8.acceptRanges"], apart := false, laid := [("unicode/utf8.acceptRanges", laid_unicode_utf8_acceptRanges), ("murmuration/program.fields", laid_murmuration_program_fields), ("unicode/utf8.first", laid_unicode_utf8_first)], narrowed := true }
def VmCopiesUptoSaid : Prop := vmCopiesUptoRow.holds Tryd.pinned (OpenSpec.upto vmCopiesSpec)

/-- 'murmurationlaw07.VmSorts', WHERE WHAT IT READS IS OF BULK AT MOST 1048576: true; the input reads as it did. -/
def vmSortsUptoRow : OpenClaim := { program := "ythachckofghppaadoor", sum := "a4d16d65eb5711225da66541a8ccb20cdf8c5dec92d88ce381aa8dea54e3276a", func := "murmuration/murmurationlaw07.VmSorts", spec := "vmSorts", inPlace := ["slices.overlaps[murmuration/api.File]", "internal/bytealg.Count", "internal/bytealg.IndexByte", "internal/bytealg.Index", "internal/bytealg.Compare", "internal/bytealg.MakeNoZero"], unfollowed := true, recurses := true, named := ["murmuration/program.fields", "internal/bytealg.MaxLen", "unicode/utf8.first", "unicode/utf8.acceptRanges"], apart := false, laid := [("unicode/utf8.acceptRanges", laid_unicode_utf8_acceptRanges), ("murmuration/program.fields", laid_murmuration_program_fields), ("unicode/utf8.first", laid_unicode_utf8_first)], narrowed := true }
def VmSortsUptoSaid : Prop := vmSortsUptoRow.holds Tryd.pinned (OpenSpec.upto vmSortsSpec)

/-- 'murmurationlaw07.VmPays', WHERE WHAT IT READS IS OF BULK AT MOST 1048576: true; the input reads as it did. -/
def vmPaysUptoRow : OpenClaim := { program := "ythachckofghppaadoor", sum := "a4d16d65eb5711225da66541a8ccb20cdf8c5dec92d88ce381aa8dea54e3276a", func := "murmuration/murmurationlaw07.VmPays", spec := "vmPays", inPlace := ["slices.overlaps[murmuration/api.File]", "internal/bytealg.Count", "internal/bytealg.IndexByte", "internal/bytealg.Index", "internal/bytealg.Compare", "internal/bytealg.MakeNoZero"], unfollowed := true, recurses := true, named := ["murmuration/program.fields", "internal/bytealg.MaxLen", "unicode/utf8.first", "unicode/utf8.acceptRanges"], apart := false, laid := [("unicode/utf8.acceptRanges", laid_unicode_utf8_acceptRanges), ("murmuration/program.fields", laid_murmuration_program_fields), ("unicode/utf8.first", laid_unicode_utf8_first)], narrowed := true }
def VmPaysUptoSaid : Prop := vmPaysUptoRow.holds Tryd.pinned (OpenSpec.upto vmPaysSpec)

/-- 'murmurationlaw07.VmIfs', WHERE WHAT IT READS IS OF BULK AT MOST 1048576: true; the input reads as it did. -/
def vmIfsUptoRow : OpenClaim := { program := "ythachckofghppaadoor", sum := "a4d16d65eb5711225da66541a8ccb20cdf8c5dec92d88ce381aa8dea54e3276a", func := "murmuration/murmurationlaw07.VmIfs", spec := "vmIfs", inPlace := ["slices.overlaps[murmuration/api.File]", "internal/bytealg.Count", "internal/bytealg.IndexByte", "internal/bytealg.Index", "internal/bytealg.Compare", "internal/bytealg.MakeNoZero"], unfollowed := true, recurses := true, named := ["murmuration/program.fields", "internal/bytealg.MaxLen", "unicode/utf8.first", "unicode/utf8.acceptRanges"], apart := false, laid := [("unicode/utf8.acceptRanges", laid_unicode_utf8_acceptRanges), ("murmuration/program.fields", laid_murmuration_program_fields), ("unicode/utf8.first", laid_unicode_utf8_first)], narrowed := true }
def VmIfsUptoSaid : Prop := vmIfsUptoRow.holds Tryd.pinned (OpenSpec.upto vmIfsSpec)

end Rows
end Go.Proofs.YthachckofghppaaDoor
