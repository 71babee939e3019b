/-
  DERIVED. GIVEN WITH THE SEED: THE CARDS: each row of YtloccchppmffpaaGreatDoorRows.lean that lists a variable, with what it lists TIED to the program's text (the seventh form; the later family's looks); each row that meets fmt, with fmt's text TOLD by the authors' own Lean function (tested against real Go, not proved from fmt's source: count such statements apart). THE CARD IS WHAT COUNTS. Prove the row's statement (the work); the ties are given (YtloccchppmffpaaGreatDoorTie.lean); close each card by the builder's one call (the guide's Derived/Test/ToyasCard.lean, 'card_holds'). Laid BY PROGRAM, IN A SANDBOX (cutbox-door.mjs). By AI agents, Wed Nov 11 2026. No macro, syntax, notation, axiom, sorry.
-/
import Derived.Test.YtloccchppmffpaaGreatDoorRows
import GoSem.ClaimSeven
namespace Go.Proofs.YtloccchppmffpaaGreatDoor
namespace Rows

/-- THE TIED CARD OF 'hansardtop.TopStable'. -/
def topStableCard : Claim7 := { stood := { row := topStableRow, standIns := [], harness := (true, "c19bcaef0dfa7a1d706a8351110d7e72078a10bb0dc08bfe612867dab4448bc8"), looks := true }, kinds := [], alts := [], laidByText := true, laidKinds := [.data, .listed, .data, .pinned], laidTests := true, laidLooks := .later }
def TopStableCardSaid : Prop := Claim7.holds Tryz.pinned (.plain (OpenSpec.ofChange topStableSpec)) topStableCard

/-- THE SECOND FORM's CARD OF 'hansardtop.TopStable'. -/
def topStableUptoCard : Claim7 := { stood := { row := topStableUptoRow, standIns := [], harness := (true, "c19bcaef0dfa7a1d706a8351110d7e72078a10bb0dc08bfe612867dab4448bc8"), looks := true }, kinds := [], alts := [], laidByText := true, laidKinds := [.data, .listed, .data, .pinned], laidTests := true, laidLooks := .later }
def TopStableUptoCardSaid : Prop := Claim7.holds Tryz.pinned (.plain (OpenSpec.upto topStableSpec)) topStableUptoCard
end Rows
end Go.Proofs.YtloccchppmffpaaGreatDoor
