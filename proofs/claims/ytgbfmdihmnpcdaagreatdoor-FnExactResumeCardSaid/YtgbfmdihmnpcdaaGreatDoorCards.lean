/-
  DERIVED. GIVEN WITH THE SEED: THE CARDS: each row of YtgbfmdihmnpcdaaGreatDoorRows.lean that lists a variable, with what it lists TIED to the program's text (the seventh form; the later family's looks); each row that meets fmt, with fmt's text TOLD by the authors' own Lean function (tested against real Go, not proved from fmt's source: count such statements apart). THE CARD IS WHAT COUNTS. Prove the row's statement (the work); the ties are given (YtgbfmdihmnpcdaaGreatDoorTie.lean); close each card by the builder's one call (the guide's Derived/Test/ToyasCard.lean, 'card_holds'). Laid BY PROGRAM, IN A SANDBOX (cutbox-door.mjs). By AI agents, Wed Nov 11 2026. No macro, syntax, notation, axiom, sorry.
-/
import Derived.Test.YtgbfmdihmnpcdaaGreatDoorRows
import GoSem.ClaimSeven
namespace Go.Proofs.YtgbfmdihmnpcdaaGreatDoor
namespace Rows

/-- THE TIED CARD OF 'laws.FnExactOnly'. -/
def fnExactOnlyCard : Claim7 := { stood := { row := fnExactOnlyRow, standIns := [], harness := (true, "f8ba82c0fa0fc0fd9fdc214efc967e6b86808b579098356492d28a5f3cbb3b5b"), looks := true }, kinds := [], alts := [], laidByText := true, laidKinds := [.data, .data, .data, .sentinel, .sentinel], laidTests := true, laidLooks := .later }
def FnExactOnlyCardSaid : Prop := Claim7.holds Tryz.pinned (.plain (OpenSpec.ofChange fnExactOnlySpec)) fnExactOnlyCard

/-- THE TIED CARD OF 'laws.FnExactResume'. -/
def fnExactResumeCard : Claim7 := { stood := { row := fnExactResumeRow, standIns := [], harness := (true, "f8ba82c0fa0fc0fd9fdc214efc967e6b86808b579098356492d28a5f3cbb3b5b"), looks := true }, kinds := [], alts := [], laidByText := true, laidKinds := [.data, .data, .data, .sentinel, .sentinel], laidTests := true, laidLooks := .later }
def FnExactResumeCardSaid : Prop := Claim7.holds Tryz.pinned (.plain (OpenSpec.ofChange fnExactResumeSpec)) fnExactResumeCard

/-- THE SECOND FORM's CARD OF 'laws.FnExactOnly'. -/
def fnExactOnlyUptoCard : Claim7 := { stood := { row := fnExactOnlyUptoRow, standIns := [], harness := (true, "f8ba82c0fa0fc0fd9fdc214efc967e6b86808b579098356492d28a5f3cbb3b5b"), looks := true }, kinds := [], alts := [], laidByText := true, laidKinds := [.data, .data, .data, .sentinel, .sentinel], laidTests := true, laidLooks := .later }
def FnExactOnlyUptoCardSaid : Prop := Claim7.holds Tryz.pinned (.plain (OpenSpec.upto fnExactOnlySpec)) fnExactOnlyUptoCard

/-- THE SECOND FORM's CARD OF 'laws.FnExactResume'. -/
def fnExactResumeUptoCard : Claim7 := { stood := { row := fnExactResumeUptoRow, standIns := [], harness := (true, "f8ba82c0fa0fc0fd9fdc214efc967e6b86808b579098356492d28a5f3cbb3b5b"), looks := true }, kinds := [], alts := [], laidByText := true, laidKinds := [.data, .data, .data, .sentinel, .sentinel], laidTests := true, laidLooks := .later }
def FnExactResumeUptoCardSaid : Prop := Claim7.holds Tryz.pinned (.plain (OpenSpec.upto fnExactResumeSpec)) fnExactResumeUptoCard
end Rows
end Go.Proofs.YtgbfmdihmnpcdaaGreatDoor
