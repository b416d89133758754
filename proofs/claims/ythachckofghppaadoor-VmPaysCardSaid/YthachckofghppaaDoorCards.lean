/-
  DERIVED. GIVEN WITH THE SEED: THE CARDS: each row of YthachckofghppaaDoorRows.lean that lists a variable, with what it lists TIED to the program's text (the seventh form; the later family's looks); each row that meets fmt, with fmt's text TOLD by the authors' own Lean function (tested against real Go, not proved from fmt's source: count such statements apart). THE CARD IS WHAT COUNTS. Prove the row's statement (the work); the ties are given (YthachckofghppaaDoorTie.lean); close each card by the builder's one call (the guide's Derived/Test/ToyasCard.lean, 'card_holds'). Laid BY PROGRAM, IN A SANDBOX (cutbox-door.mjs). By AI agents, Wed Nov 11 2026. No macro, syntax, notation, axiom, sorry.
-/
import Derived.Test.YthachckofghppaaDoorRows
import GoSem.ClaimSeven
namespace Go.Proofs.YthachckofghppaaDoor
namespace Rows

/-- THE TIED CARD OF 'murmurationlaw07.VmCopies'. -/
def vmCopiesCard : Claim7 := { stood := { row := vmCopiesRow, standIns := [], harness := (true, "35cc9fbdc68b7252a8d76506ccda13c026c8af9ff5d85b129baeec5793153110"), looks := true }, kinds := [], alts := [], laidByText := true, laidKinds := [.data, .data, .pinned], laidTests := true, laidLooks := .later }
def VmCopiesCardSaid : Prop := Claim7.holds Tryd.pinned (.plain (OpenSpec.ofChange vmCopiesSpec)) vmCopiesCard

/-- THE TIED CARD OF 'murmurationlaw07.VmSorts'. -/
def vmSortsCard : Claim7 := { stood := { row := vmSortsRow, standIns := [], harness := (true, "35cc9fbdc68b7252a8d76506ccda13c026c8af9ff5d85b129baeec5793153110"), looks := true }, kinds := [], alts := [], laidByText := true, laidKinds := [.data, .data, .pinned], laidTests := true, laidLooks := .later }
def VmSortsCardSaid : Prop := Claim7.holds Tryd.pinned (.plain (OpenSpec.ofChange vmSortsSpec)) vmSortsCard

/-- THE TIED CARD OF 'murmurationlaw07.VmPays'. -/
def vmPaysCard : Claim7 := { stood := { row := vmPaysRow, standIns := [], harness := (true, "35cc9fbdc68b7252a8d76506ccda13c026c8af9ff5d85b129baeec5793153110"), looks := true }, kinds := [], alts := [], laidByText := true, laidKinds := [.data, .data, .pinned], laidTests := true, laidLooks := .later }
def VmPaysCardSaid : Prop := Claim7.holds Tryd.pinned (.plain (OpenSpec.ofChange vmPaysSpec)) vmPaysCard

/-- THE TIED CARD OF 'murmurationlaw07.VmIfs'. -/
def vmIfsCard : Claim7 := { stood := { row := vmIfsRow, standIns := [], harness := (true, "35cc9fbdc68b7252a8d76506ccda13c026c8af9ff5d85b129baeec5793153110"), looks := true }, kinds := [], alts := [], laidByText := true, laidKinds := [.data, .data, .pinned], laidTests := true, laidLooks := .later }
def VmIfsCardSaid : Prop := Claim7.holds Tryd.pinned (.plain (OpenSpec.ofChange vmIfsSpec)) vmIfsCard

/-- THE SECOND FORM's CARD OF 'murmurationlaw07.VmCopies'. -/
def vmCopiesUptoCard : Claim7 := { stood := { row := vmCopiesUptoRow, standIns := [], harness := (true, "35cc9fbdc68b7252a8d76506ccda13c026c8af9ff5d85b129baeec5793153110"), looks := true }, kinds := [], alts := [], laidByText := true, laidKinds := [.data, .data, .pinned], laidTests := true, laidLooks := .later }
def VmCopiesUptoCardSaid : Prop := Claim7.holds Tryd.pinned (.plain (OpenSpec.upto vmCopiesSpec)) vmCopiesUptoCard

/-- THE SECOND FORM's CARD OF 'murmurationlaw07.VmSorts'. -/
def vmSortsUptoCard : Claim7 := { stood := { row := vmSortsUptoRow, standIns := [], harness := (true, "35cc9fbdc68b7252a8d76506ccda13c026c8af9ff5d85b129baeec5793153110"), looks := true }, kinds := [], alts := [], laidByText := true, laidKinds := [.data, .data, .pinned], laidTests := true, laidLooks := .later }
def VmSortsUptoCardSaid : Prop := Claim7.holds Tryd.pinned (.plain (OpenSpec.upto vmSortsSpec)) vmSortsUptoCard

/-- THE SECOND FORM's CARD OF 'murmurationlaw07.VmPays'. -/
def vmPaysUptoCard : Claim7 := { stood := { row := vmPaysUptoRow, standIns := [], harness := (true, "35cc9fbdc68b7252a8d76506ccda13c026c8af9ff5d85b129baeec5793153110"), looks := true }, kinds := [], alts := [], laidByText := true, laidKinds := [.data, .data, .pinned], laidTests := true, laidLooks := .later }
def VmPaysUptoCardSaid : Prop := Claim7.holds Tryd.pinned (.plain (OpenSpec.upto vmPaysSpec)) vmPaysUptoCard

/-- THE SECOND FORM's CARD OF 'murmurationlaw07.VmIfs'. -/
def vmIfsUptoCard : Claim7 := { stood := { row := vmIfsUptoRow, standIns := [], harness := (true, "35cc9fbdc68b7252a8d76506ccda13c026c8af9ff5d85b129baeec5793153110"), looks := true }, kinds := [], alts := [], laidByText := true, laidKinds := [.data, .data, .pinned], laidTests := true, laidLooks := .later }
def VmIfsUptoCardSaid : Prop := Claim7.holds Tryd.pinned (.plain (OpenSpec.upto vmIfsSpec)) vmIfsUptoCard
end Rows
end Go.Proofs.YthachckofghppaaDoor
