/-
  DERIVED. GIVEN WITH THE SEED: THE CARDS: each row of YtgkhojgmpojodaaDoorRows.lean that lists a variable, with what it lists TIED to the program's text (the seventh form; the later family's looks); each row that meets fmt, with fmt's text TOLD by the authors' own Lean function (tested against real Go, not proved from fmt's source: count such statements apart). THE CARD IS WHAT COUNTS. Prove the row's statement (the work); the ties are given (YtgkhojgmpojodaaDoorTie.lean); close each card by the builder's one call (the guide's Derived/Test/ToyasCard.lean, 'card_holds'). Laid BY PROGRAM, IN A SANDBOX (cutbox-door.mjs). By AI agents, Wed Nov 11 2026. No macro, syntax, notation, axiom, sorry.
-/
import Derived.Test.YtgkhojgmpojodaaDoorRows
import GoSem.ClaimSeven
namespace Go.Proofs.YtgkhojgmpojodaaDoor
namespace Rows

/-- THE TIED CARD OF 'laws.FnExactAsks'. -/
def fnExactAsksCard : Claim7 := { stood := { row := fnExactAsksRow, standIns := [], harness := (true, "96c0159693a5e2e76b27cfb033298eb0a6e1449e9ff944622dc3a06ac8133bfa"), looks := true }, kinds := [], alts := [], laidByText := true, laidKinds := [.data, .data, .data, .sentinel, .sentinel], laidTests := true, laidLooks := .later }
def FnExactAsksCardSaid : Prop := Claim7.holds Tryd.pinned (.plain (OpenSpec.ofChange fnExactAsksSpec)) fnExactAsksCard

/-- THE SECOND FORM's CARD OF 'laws.FnExactAsks'. -/
def fnExactAsksUptoCard : Claim7 := { stood := { row := fnExactAsksUptoRow, standIns := [], harness := (true, "96c0159693a5e2e76b27cfb033298eb0a6e1449e9ff944622dc3a06ac8133bfa"), looks := true }, kinds := [], alts := [], laidByText := true, laidKinds := [.data, .data, .data, .sentinel, .sentinel], laidTests := true, laidLooks := .later }
def FnExactAsksUptoCardSaid : Prop := Claim7.holds Tryd.pinned (.plain (OpenSpec.upto fnExactAsksSpec)) fnExactAsksUptoCard
end Rows
end Go.Proofs.YtgkhojgmpojodaaDoor
