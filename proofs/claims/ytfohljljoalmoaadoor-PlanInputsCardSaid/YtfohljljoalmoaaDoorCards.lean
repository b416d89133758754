/-
  DERIVED. GIVEN WITH THE SEED: THE CARDS: each row of YtfohljljoalmoaaDoorRows.lean that lists a variable, with what it lists TIED to the program's text (the seventh form; the later family's looks); each row that meets fmt, with fmt's text TOLD by the authors' own Lean function (tested against real Go, not proved from fmt's source: count such statements apart). THE CARD IS WHAT COUNTS. Prove the row's statement (the work); the ties are given (YtfohljljoalmoaaDoorTie.lean); close each card by the builder's one call (the guide's Derived/Test/ToyasCard.lean, 'card_holds'). Laid BY PROGRAM, IN A SANDBOX (cutbox-door.mjs). By AI agents, Wed Nov 11 2026. No macro, syntax, notation, axiom, sorry.
-/
import Derived.Test.YtfohljljoalmoaaDoorRows
import GoSem.ClaimSeven
namespace Go.Proofs.YtfohljljoalmoaaDoor
namespace Rows

/-- THE TIED CARD OF 'murmurationlaw16.PlanOrder'. -/
def planOrderCard : Claim7 := { stood := { row := planOrderRow, standIns := [], harness := (true, "c4d77fcb04cee545061e98a67f023b39ace650da1035daae9b12f2c6e73f5d1c"), looks := false }, kinds := [], alts := [], laidByText := true, laidKinds := [.data, .data, .pinned], laidTests := true, laidLooks := .later }
def PlanOrderCardSaid : Prop := Claim7.holds Tryd.pinned (.plain (OpenSpec.ofChange planOrderSpec)) planOrderCard

/-- THE TIED CARD OF 'murmurationlaw16.PlanInputs'. -/
def planInputsCard : Claim7 := { stood := { row := planInputsRow, standIns := [], harness := (true, "c4d77fcb04cee545061e98a67f023b39ace650da1035daae9b12f2c6e73f5d1c"), looks := false }, kinds := [], alts := [], laidByText := true, laidKinds := [.data, .data, .pinned], laidTests := true, laidLooks := .later }
def PlanInputsCardSaid : Prop := Claim7.holds Tryd.pinned (.plain (OpenSpec.ofChange planInputsSpec)) planInputsCard

/-- THE TIED CARD OF 'murmurationlaw16.PlanBelow'. -/
def planBelowCard : Claim7 := { stood := { row := planBelowRow, standIns := [], harness := (true, "c4d77fcb04cee545061e98a67f023b39ace650da1035daae9b12f2c6e73f5d1c"), looks := false }, kinds := [], alts := [], laidByText := true, laidKinds := [.data, .data, .pinned], laidTests := true, laidLooks := .later }
def PlanBelowCardSaid : Prop := Claim7.holds Tryd.pinned (.plain (OpenSpec.ofChange planBelowSpec)) planBelowCard

/-- THE TIED CARD OF 'murmurationlaw16.PlanGrows'. -/
def planGrowsCard : Claim7 := { stood := { row := planGrowsRow, standIns := [], harness := (true, "c4d77fcb04cee545061e98a67f023b39ace650da1035daae9b12f2c6e73f5d1c"), looks := false }, kinds := [], alts := [], laidByText := true, laidKinds := [.data, .data, .pinned], laidTests := true, laidLooks := .later }
def PlanGrowsCardSaid : Prop := Claim7.holds Tryd.pinned (.plain (OpenSpec.ofChange planGrowsSpec)) planGrowsCard

/-- THE SECOND FORM's CARD OF 'murmurationlaw16.PlanOrder'. -/
def planOrderUptoCard : Claim7 := { stood := { row := planOrderUptoRow, standIns := [], harness := (true, "c4d77fcb04cee545061e98a67f023b39ace650da1035daae9b12f2c6e73f5d1c"), looks := false }, kinds := [], alts := [], laidByText := true, laidKinds := [.data, .data, .pinned], laidTests := true, laidLooks := .later }
def PlanOrderUptoCardSaid : Prop := Claim7.holds Tryd.pinned (.plain (OpenSpec.upto planOrderSpec)) planOrderUptoCard

/-- THE SECOND FORM's CARD OF 'murmurationlaw16.PlanInputs'. -/
def planInputsUptoCard : Claim7 := { stood := { row := planInputsUptoRow, standIns := [], harness := (true, "c4d77fcb04cee545061e98a67f023b39ace650da1035daae9b12f2c6e73f5d1c"), looks := false }, kinds := [], alts := [], laidByText := true, laidKinds := [.data, .data, .pinned], laidTests := true, laidLooks := .later }
def PlanInputsUptoCardSaid : Prop := Claim7.holds Tryd.pinned (.plain (OpenSpec.upto planInputsSpec)) planInputsUptoCard

/-- THE SECOND FORM's CARD OF 'murmurationlaw16.PlanBelow'. -/
def planBelowUptoCard : Claim7 := { stood := { row := planBelowUptoRow, standIns := [], harness := (true, "c4d77fcb04cee545061e98a67f023b39ace650da1035daae9b12f2c6e73f5d1c"), looks := false }, kinds := [], alts := [], laidByText := true, laidKinds := [.data, .data, .pinned], laidTests := true, laidLooks := .later }
def PlanBelowUptoCardSaid : Prop := Claim7.holds Tryd.pinned (.plain (OpenSpec.upto planBelowSpec)) planBelowUptoCard

/-- THE SECOND FORM's CARD OF 'murmurationlaw16.PlanGrows'. -/
def planGrowsUptoCard : Claim7 := { stood := { row := planGrowsUptoRow, standIns := [], harness := (true, "c4d77fcb04cee545061e98a67f023b39ace650da1035daae9b12f2c6e73f5d1c"), looks := false }, kinds := [], alts := [], laidByText := true, laidKinds := [.data, .data, .pinned], laidTests := true, laidLooks := .later }
def PlanGrowsUptoCardSaid : Prop := Claim7.holds Tryd.pinned (.plain (OpenSpec.upto planGrowsSpec)) planGrowsUptoCard
end Rows
end Go.Proofs.YtfohljljoalmoaaDoor
