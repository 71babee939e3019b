/-
  DERIVED. GIVEN WITH THE SEED: THE CARDS: each row of YtfegfnekphobmaaGreatDoorRows.lean that lists a variable, with what it lists TIED to the program's text (the seventh form; the later family's looks); each row that meets fmt, with fmt's text TOLD by the authors' own Lean function (tested against real Go, not proved from fmt's source: count such statements apart). THE CARD IS WHAT COUNTS. Prove the row's statement (the work); the ties are given (YtfegfnekphobmaaGreatDoorTie.lean); close each card by the builder's one call (the guide's Derived/Test/ToyasCard.lean, 'card_holds'). Laid BY PROGRAM, IN A SANDBOX (cutbox-door.mjs). By AI agents, Wed Nov 11 2026. No macro, syntax, notation, axiom, sorry.
-/
import Derived.Test.YtfegfnekphobmaaGreatDoorRows
import GoSem.ClaimSeven
namespace Go.Proofs.YtfegfnekphobmaaGreatDoor
namespace Rows

/-- THE TIED CARD OF 'hansardlaw56.VolumesSpec'. -/
def volumesSpecCard : Claim7 := { stood := { row := volumesSpecRow, standIns := [], harness := (true, "5e29be5027b2ece56ed9d1a018aa09af7b7f88a789edb75909b09bee791d7af8"), looks := true }, kinds := [], alts := [], laidByText := true, laidKinds := [.data, .data, .data, .pinned], laidTests := true, laidLooks := .later }
def VolumesSpecCardSaid : Prop := Claim7.holds Tryz.pinned (.plain (OpenSpec.ofChange volumesSpecSpec)) volumesSpecCard

/-- THE TIED CARD OF 'hansardlaw56.VolumesProveSpec'. -/
def volumesProveSpecCard : Claim7 := { stood := { row := volumesProveSpecRow, standIns := [], harness := (true, "5e29be5027b2ece56ed9d1a018aa09af7b7f88a789edb75909b09bee791d7af8"), looks := true }, kinds := [], alts := [], laidByText := true, laidKinds := [.data, .data, .data, .pinned], laidTests := true, laidLooks := .later }
def VolumesProveSpecCardSaid : Prop := Claim7.holds Tryz.pinned (.plain (OpenSpec.ofChange volumesProveSpecSpec)) volumesProveSpecCard

/-- THE TIED CARD OF 'hansardlaw56.VolumesSurvive'. -/
def volumesSurviveCard : Claim7 := { stood := { row := volumesSurviveRow, standIns := [], harness := (true, "5e29be5027b2ece56ed9d1a018aa09af7b7f88a789edb75909b09bee791d7af8"), looks := true }, kinds := [], alts := [], laidByText := true, laidKinds := [.data, .data, .data, .pinned], laidTests := true, laidLooks := .later }
def VolumesSurviveCardSaid : Prop := Claim7.holds Tryz.pinned (.plain (OpenSpec.ofChange volumesSurviveSpec)) volumesSurviveCard

/-- THE TIED CARD OF 'hansardlaw56.VolumesOrder'. -/
def volumesOrderCard : Claim7 := { stood := { row := volumesOrderRow, standIns := [], harness := (true, "5e29be5027b2ece56ed9d1a018aa09af7b7f88a789edb75909b09bee791d7af8"), looks := true }, kinds := [], alts := [], laidByText := true, laidKinds := [.data, .data, .data, .pinned], laidTests := true, laidLooks := .later }
def VolumesOrderCardSaid : Prop := Claim7.holds Tryz.pinned (.plain (OpenSpec.ofChange volumesOrderSpec)) volumesOrderCard

/-- THE SECOND FORM's CARD OF 'hansardlaw56.VolumesSpec'. -/
def volumesSpecUptoCard : Claim7 := { stood := { row := volumesSpecUptoRow, standIns := [], harness := (true, "5e29be5027b2ece56ed9d1a018aa09af7b7f88a789edb75909b09bee791d7af8"), looks := true }, kinds := [], alts := [], laidByText := true, laidKinds := [.data, .data, .data, .pinned], laidTests := true, laidLooks := .later }
def VolumesSpecUptoCardSaid : Prop := Claim7.holds Tryz.pinned (.plain (OpenSpec.upto volumesSpecSpec)) volumesSpecUptoCard

/-- THE SECOND FORM's CARD OF 'hansardlaw56.VolumesProveSpec'. -/
def volumesProveSpecUptoCard : Claim7 := { stood := { row := volumesProveSpecUptoRow, standIns := [], harness := (true, "5e29be5027b2ece56ed9d1a018aa09af7b7f88a789edb75909b09bee791d7af8"), looks := true }, kinds := [], alts := [], laidByText := true, laidKinds := [.data, .data, .data, .pinned], laidTests := true, laidLooks := .later }
def VolumesProveSpecUptoCardSaid : Prop := Claim7.holds Tryz.pinned (.plain (OpenSpec.upto volumesProveSpecSpec)) volumesProveSpecUptoCard

/-- THE SECOND FORM's CARD OF 'hansardlaw56.VolumesSurvive'. -/
def volumesSurviveUptoCard : Claim7 := { stood := { row := volumesSurviveUptoRow, standIns := [], harness := (true, "5e29be5027b2ece56ed9d1a018aa09af7b7f88a789edb75909b09bee791d7af8"), looks := true }, kinds := [], alts := [], laidByText := true, laidKinds := [.data, .data, .data, .pinned], laidTests := true, laidLooks := .later }
def VolumesSurviveUptoCardSaid : Prop := Claim7.holds Tryz.pinned (.plain (OpenSpec.upto volumesSurviveSpec)) volumesSurviveUptoCard

/-- THE SECOND FORM's CARD OF 'hansardlaw56.VolumesOrder'. -/
def volumesOrderUptoCard : Claim7 := { stood := { row := volumesOrderUptoRow, standIns := [], harness := (true, "5e29be5027b2ece56ed9d1a018aa09af7b7f88a789edb75909b09bee791d7af8"), looks := true }, kinds := [], alts := [], laidByText := true, laidKinds := [.data, .data, .data, .pinned], laidTests := true, laidLooks := .later }
def VolumesOrderUptoCardSaid : Prop := Claim7.holds Tryz.pinned (.plain (OpenSpec.upto volumesOrderSpec)) volumesOrderUptoCard
end Rows
end Go.Proofs.YtfegfnekphobmaaGreatDoor
