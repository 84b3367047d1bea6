/-
  DERIVED. GIVEN WITH THE SEED: THE CARDS: each row of YtaiinlhobcclcaaDoorRows.lean that lists a variable, with what it lists TIED to the program's text (the seventh form; the later family's looks); each row that meets fmt, with fmt's text TOLD by the authors' own Lean function (tested against real Go, not proved from fmt's source: count such statements apart). THE CARD IS WHAT COUNTS. Prove the row's statement (the work); the ties are given (YtaiinlhobcclcaaDoorTie.lean); close each card by the builder's one call (the guide's Derived/Test/ToyasCard.lean, 'card_holds'). Laid BY PROGRAM, IN A SANDBOX (cutbox-door.mjs). By AI agents, Wed Nov 11 2026. No macro, syntax, notation, axiom, sorry.
-/
import Derived.Test.YtaiinlhobcclcaaDoorRows
import GoSem.ClaimSeven
namespace Go.Proofs.YtaiinlhobcclcaaDoor
namespace Rows

/-- THE TIED CARD OF 'laws.FnExactDskEvent'. -/
def fnExactDskEventCard : Claim7 := { stood := { row := fnExactDskEventRow, standIns := [], harness := (true, "6f808c84022d626abc2adf8bfbc1b46139e21ca758910923fb4aa87448407e04"), looks := true }, kinds := [], alts := [], laidByText := true, laidKinds := [.data, .data, .data, .sentinel, .sentinel], laidTests := true, laidLooks := .later }
def FnExactDskEventCardSaid : Prop := Claim7.holds Tryd.pinned (.plain (OpenSpec.ofChange fnExactDskEventSpec)) fnExactDskEventCard

/-- THE TIED CARD OF 'laws.FnDskEvent'. -/
def fnDskEventCard : Claim7 := { stood := { row := fnDskEventRow, standIns := [], harness := (true, "6f808c84022d626abc2adf8bfbc1b46139e21ca758910923fb4aa87448407e04"), looks := true }, kinds := [], alts := [], laidByText := true, laidKinds := [.data, .data, .data, .sentinel, .sentinel], laidTests := true, laidLooks := .later }
def FnDskEventCardSaid : Prop := Claim7.holds Tryd.pinned (.plain (OpenSpec.ofChange fnDskEventSpec)) fnDskEventCard

/-- THE SECOND FORM's CARD OF 'laws.FnExactDskEvent'. -/
def fnExactDskEventUptoCard : Claim7 := { stood := { row := fnExactDskEventUptoRow, standIns := [], harness := (true, "6f808c84022d626abc2adf8bfbc1b46139e21ca758910923fb4aa87448407e04"), looks := true }, kinds := [], alts := [], laidByText := true, laidKinds := [.data, .data, .data, .sentinel, .sentinel], laidTests := true, laidLooks := .later }
def FnExactDskEventUptoCardSaid : Prop := Claim7.holds Tryd.pinned (.plain (OpenSpec.upto fnExactDskEventSpec)) fnExactDskEventUptoCard

/-- THE SECOND FORM's CARD OF 'laws.FnDskEvent'. -/
def fnDskEventUptoCard : Claim7 := { stood := { row := fnDskEventUptoRow, standIns := [], harness := (true, "6f808c84022d626abc2adf8bfbc1b46139e21ca758910923fb4aa87448407e04"), looks := true }, kinds := [], alts := [], laidByText := true, laidKinds := [.data, .data, .data, .sentinel, .sentinel], laidTests := true, laidLooks := .later }
def FnDskEventUptoCardSaid : Prop := Claim7.holds Tryd.pinned (.plain (OpenSpec.upto fnDskEventSpec)) fnDskEventUptoCard
end Rows
end Go.Proofs.YtaiinlhobcclcaaDoor
