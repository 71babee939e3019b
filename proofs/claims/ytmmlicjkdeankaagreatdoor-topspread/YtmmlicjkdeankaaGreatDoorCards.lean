/-
  DERIVED. GIVEN WITH THE SEED: THE CARDS: each row of YtmmlicjkdeankaaGreatDoorRows.lean that lists a variable, with what it lists TIED to the program's text (the seventh form; the later family's looks); each row that meets fmt, with fmt's text TOLD by the authors' own Lean function (tested against real Go, not proved from fmt's source: count such statements apart). THE CARD IS WHAT COUNTS. Prove the row's statement (the work); the ties are given (YtmmlicjkdeankaaGreatDoorTie.lean); close each card by the builder's one call (the guide's Derived/Test/ToyasCard.lean, 'card_holds'). Laid BY PROGRAM, IN A SANDBOX (cutbox-door.mjs). By AI agents, Wed Nov 11 2026. No macro, syntax, notation, axiom, sorry.
-/
import Derived.Test.YtmmlicjkdeankaaGreatDoorRows
import GoSem.ClaimSeven
namespace Go.Proofs.YtmmlicjkdeankaaGreatDoor
namespace Rows

/-- THE TIED CARD OF 'hansardtop.TopSpread'. -/
def topSpreadCard : Claim7 := { stood := { row := topSpreadRow, standIns := [], harness := (true, "d5f4d93207c117cd4cc27a90436014a6fce5618496fe20df76bc0ba194dc1c7d"), looks := true }, kinds := [], alts := [], laidByText := true, laidKinds := [.data, .pinned], laidTests := true, laidLooks := .later }
def TopSpreadCardSaid : Prop := Claim7.holds Tryz.pinned (.plain (OpenSpec.ofChange topSpreadSpec)) topSpreadCard

/-- THE SECOND FORM's CARD OF 'hansardtop.TopSpread'. -/
def topSpreadUptoCard : Claim7 := { stood := { row := topSpreadUptoRow, standIns := [], harness := (true, "d5f4d93207c117cd4cc27a90436014a6fce5618496fe20df76bc0ba194dc1c7d"), looks := true }, kinds := [], alts := [], laidByText := true, laidKinds := [.data, .pinned], laidTests := true, laidLooks := .later }
def TopSpreadUptoCardSaid : Prop := Claim7.holds Tryz.pinned (.plain (OpenSpec.upto topSpreadSpec)) topSpreadUptoCard
end Rows
end Go.Proofs.YtmmlicjkdeankaaGreatDoor
