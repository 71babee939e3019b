/-
  DERIVED. GIVEN WITH THE SEED: THE CARDS: each row of YtlfpnfjibgeehaaDoorRows.lean that lists a variable, with what it lists TIED to the program's text (the seventh form; the later family's looks); each row that meets fmt, with fmt's text TOLD by the authors' own Lean function (tested against real Go, not proved from fmt's source: count such statements apart). THE CARD IS WHAT COUNTS. Prove the row's statement (the work); the ties are given (YtlfpnfjibgeehaaDoorTie.lean); close each card by the builder's one call (the guide's Derived/Test/ToyasCard.lean, 'card_holds'). Laid BY PROGRAM, IN A SANDBOX (cutbox-door.mjs). By AI agents, Wed Nov 11 2026. No macro, syntax, notation, axiom, sorry.
-/
import Derived.Test.YtlfpnfjibgeehaaDoorRows
import GoSem.ClaimSeven
namespace Go.Proofs.YtlfpnfjibgeehaaDoor
namespace Rows

/-- THE TIED CARD OF 'hansardlaw19.PermitsSpec'. -/
def permitsSpecCard : Claim7 := { stood := { row := permitsSpecRow, standIns := [], harness := (true, "32d994823da477d4f600992d3aa6db29848915ac4f0e34c8f93436355ccc2265"), looks := true }, kinds := [], alts := [], laidByText := true, laidKinds := [.data, .pinned], laidTests := true, laidLooks := .later }
def PermitsSpecCardSaid : Prop := Claim7.holds Tryd.pinned (.plain (OpenSpec.ofChange permitsSpecSpec)) permitsSpecCard

/-- THE TIED CARD OF 'hansardlaw19.PermitsChangeSpec'. -/
def permitsChangeSpecCard : Claim7 := { stood := { row := permitsChangeSpecRow, standIns := [], harness := (true, "32d994823da477d4f600992d3aa6db29848915ac4f0e34c8f93436355ccc2265"), looks := true }, kinds := [], alts := [], laidByText := true, laidKinds := [.data, .pinned], laidTests := true, laidLooks := .later }
def PermitsChangeSpecCardSaid : Prop := Claim7.holds Tryd.pinned (.plain (OpenSpec.ofChange permitsChangeSpecSpec)) permitsChangeSpecCard

/-- THE TIED CARD OF 'hansardlaw19.PermitsRemain'. -/
def permitsRemainCard : Claim7 := { stood := { row := permitsRemainRow, standIns := [], harness := (true, "32d994823da477d4f600992d3aa6db29848915ac4f0e34c8f93436355ccc2265"), looks := true }, kinds := [], alts := [], laidByText := true, laidKinds := [.data, .pinned], laidTests := true, laidLooks := .later }
def PermitsRemainCardSaid : Prop := Claim7.holds Tryd.pinned (.plain (OpenSpec.ofChange permitsRemainSpec)) permitsRemainCard

/-- THE TIED CARD OF 'hansardlaw19.PermitsChange'. -/
def permitsChangeCard : Claim7 := { stood := { row := permitsChangeRow, standIns := [], harness := (true, "32d994823da477d4f600992d3aa6db29848915ac4f0e34c8f93436355ccc2265"), looks := true }, kinds := [], alts := [], laidByText := true, laidKinds := [.data, .pinned], laidTests := true, laidLooks := .later }
def PermitsChangeCardSaid : Prop := Claim7.holds Tryd.pinned (.plain (OpenSpec.ofChange permitsChangeSpec)) permitsChangeCard

/-- THE TIED CARD OF 'hansardlaw19.PermitsMore'. -/
def permitsMoreCard : Claim7 := { stood := { row := permitsMoreRow, standIns := [], harness := (true, "32d994823da477d4f600992d3aa6db29848915ac4f0e34c8f93436355ccc2265"), looks := true }, kinds := [], alts := [], laidByText := true, laidKinds := [.data, .pinned], laidTests := true, laidLooks := .later }
def PermitsMoreCardSaid : Prop := Claim7.holds Tryd.pinned (.plain (OpenSpec.ofChange permitsMoreSpec)) permitsMoreCard

/-- THE TIED CARD OF 'hansardlaw19.PermitsFixed'. -/
def permitsFixedCard : Claim7 := { stood := { row := permitsFixedRow, standIns := [], harness := (true, "32d994823da477d4f600992d3aa6db29848915ac4f0e34c8f93436355ccc2265"), looks := true }, kinds := [], alts := [], laidByText := true, laidKinds := [.data, .pinned], laidTests := true, laidLooks := .later }
def PermitsFixedCardSaid : Prop := Claim7.holds Tryd.pinned (.plain (OpenSpec.ofChange permitsFixedSpec)) permitsFixedCard

/-- THE TIED CARD OF 'hansardlaw23.SettledSpec'. -/
def settledSpecCard : Claim7 := { stood := { row := settledSpecRow, standIns := [], harness := (true, "32d994823da477d4f600992d3aa6db29848915ac4f0e34c8f93436355ccc2265"), looks := true }, kinds := [], alts := [], laidByText := true, laidKinds := [.data, .pinned], laidTests := true, laidLooks := .later }
def SettledSpecCardSaid : Prop := Claim7.holds Tryd.pinned (.plain (OpenSpec.ofChange settledSpecSpec)) settledSpecCard

/-- THE TIED CARD OF 'hansardlaw23.SettledStateSpec'. -/
def settledStateSpecCard : Claim7 := { stood := { row := settledStateSpecRow, standIns := [], harness := (true, "32d994823da477d4f600992d3aa6db29848915ac4f0e34c8f93436355ccc2265"), looks := true }, kinds := [], alts := [], laidByText := true, laidKinds := [.data, .pinned], laidTests := true, laidLooks := .later }
def SettledStateSpecCardSaid : Prop := Claim7.holds Tryd.pinned (.plain (OpenSpec.ofChange settledStateSpecSpec)) settledStateSpecCard

/-- THE TIED CARD OF 'hansardlaw23.SettledWhole'. -/
def settledWholeCard : Claim7 := { stood := { row := settledWholeRow, standIns := [], harness := (true, "32d994823da477d4f600992d3aa6db29848915ac4f0e34c8f93436355ccc2265"), looks := true }, kinds := [], alts := [], laidByText := true, laidKinds := [.data, .pinned], laidTests := true, laidLooks := .later }
def SettledWholeCardSaid : Prop := Claim7.holds Tryd.pinned (.plain (OpenSpec.ofChange settledWholeSpec)) settledWholeCard

/-- THE TIED CARD OF 'hansardlaw23.SettledEarlier'. -/
def settledEarlierCard : Claim7 := { stood := { row := settledEarlierRow, standIns := [], harness := (true, "32d994823da477d4f600992d3aa6db29848915ac4f0e34c8f93436355ccc2265"), looks := true }, kinds := [], alts := [], laidByText := true, laidKinds := [.data, .pinned], laidTests := true, laidLooks := .later }
def SettledEarlierCardSaid : Prop := Claim7.holds Tryd.pinned (.plain (OpenSpec.ofChange settledEarlierSpec)) settledEarlierCard

/-- THE TIED CARD OF 'hansardlaw23.SettledRemains'. -/
def settledRemainsCard : Claim7 := { stood := { row := settledRemainsRow, standIns := [], harness := (true, "32d994823da477d4f600992d3aa6db29848915ac4f0e34c8f93436355ccc2265"), looks := true }, kinds := [], alts := [], laidByText := true, laidKinds := [.data, .pinned], laidTests := true, laidLooks := .later }
def SettledRemainsCardSaid : Prop := Claim7.holds Tryd.pinned (.plain (OpenSpec.ofChange settledRemainsSpec)) settledRemainsCard

/-- THE SECOND FORM's CARD OF 'hansardlaw19.PermitsSpec'. -/
def permitsSpecUptoCard : Claim7 := { stood := { row := permitsSpecUptoRow, standIns := [], harness := (true, "32d994823da477d4f600992d3aa6db29848915ac4f0e34c8f93436355ccc2265"), looks := true }, kinds := [], alts := [], laidByText := true, laidKinds := [.data, .pinned], laidTests := true, laidLooks := .later }
def PermitsSpecUptoCardSaid : Prop := Claim7.holds Tryd.pinned (.plain (OpenSpec.upto permitsSpecSpec)) permitsSpecUptoCard

/-- THE SECOND FORM's CARD OF 'hansardlaw19.PermitsChangeSpec'. -/
def permitsChangeSpecUptoCard : Claim7 := { stood := { row := permitsChangeSpecUptoRow, standIns := [], harness := (true, "32d994823da477d4f600992d3aa6db29848915ac4f0e34c8f93436355ccc2265"), looks := true }, kinds := [], alts := [], laidByText := true, laidKinds := [.data, .pinned], laidTests := true, laidLooks := .later }
def PermitsChangeSpecUptoCardSaid : Prop := Claim7.holds Tryd.pinned (.plain (OpenSpec.upto permitsChangeSpecSpec)) permitsChangeSpecUptoCard

/-- THE SECOND FORM's CARD OF 'hansardlaw19.PermitsRemain'. -/
def permitsRemainUptoCard : Claim7 := { stood := { row := permitsRemainUptoRow, standIns := [], harness := (true, "32d994823da477d4f600992d3aa6db29848915ac4f0e34c8f93436355ccc2265"), looks := true }, kinds := [], alts := [], laidByText := true, laidKinds := [.data, .pinned], laidTests := true, laidLooks := .later }
def PermitsRemainUptoCardSaid : Prop := Claim7.holds Tryd.pinned (.plain (OpenSpec.upto permitsRemainSpec)) permitsRemainUptoCard

/-- THE SECOND FORM's CARD OF 'hansardlaw19.PermitsChange'. -/
def permitsChangeUptoCard : Claim7 := { stood := { row := permitsChangeUptoRow, standIns := [], harness := (true, "32d994823da477d4f600992d3aa6db29848915ac4f0e34c8f93436355ccc2265"), looks := true }, kinds := [], alts := [], laidByText := true, laidKinds := [.data, .pinned], laidTests := true, laidLooks := .later }
def PermitsChangeUptoCardSaid : Prop := Claim7.holds Tryd.pinned (.plain (OpenSpec.upto permitsChangeSpec)) permitsChangeUptoCard

/-- THE SECOND FORM's CARD OF 'hansardlaw19.PermitsMore'. -/
def permitsMoreUptoCard : Claim7 := { stood := { row := permitsMoreUptoRow, standIns := [], harness := (true, "32d994823da477d4f600992d3aa6db29848915ac4f0e34c8f93436355ccc2265"), looks := true }, kinds := [], alts := [], laidByText := true, laidKinds := [.data, .pinned], laidTests := true, laidLooks := .later }
def PermitsMoreUptoCardSaid : Prop := Claim7.holds Tryd.pinned (.plain (OpenSpec.upto permitsMoreSpec)) permitsMoreUptoCard

/-- THE SECOND FORM's CARD OF 'hansardlaw19.PermitsFixed'. -/
def permitsFixedUptoCard : Claim7 := { stood := { row := permitsFixedUptoRow, standIns := [], harness := (true, "32d994823da477d4f600992d3aa6db29848915ac4f0e34c8f93436355ccc2265"), looks := true }, kinds := [], alts := [], laidByText := true, laidKinds := [.data, .pinned], laidTests := true, laidLooks := .later }
def PermitsFixedUptoCardSaid : Prop := Claim7.holds Tryd.pinned (.plain (OpenSpec.upto permitsFixedSpec)) permitsFixedUptoCard

/-- THE SECOND FORM's CARD OF 'hansardlaw23.SettledSpec'. -/
def settledSpecUptoCard : Claim7 := { stood := { row := settledSpecUptoRow, standIns := [], harness := (true, "32d994823da477d4f600992d3aa6db29848915ac4f0e34c8f93436355ccc2265"), looks := true }, kinds := [], alts := [], laidByText := true, laidKinds := [.data, .pinned], laidTests := true, laidLooks := .later }
def SettledSpecUptoCardSaid : Prop := Claim7.holds Tryd.pinned (.plain (OpenSpec.upto settledSpecSpec)) settledSpecUptoCard

/-- THE SECOND FORM's CARD OF 'hansardlaw23.SettledStateSpec'. -/
def settledStateSpecUptoCard : Claim7 := { stood := { row := settledStateSpecUptoRow, standIns := [], harness := (true, "32d994823da477d4f600992d3aa6db29848915ac4f0e34c8f93436355ccc2265"), looks := true }, kinds := [], alts := [], laidByText := true, laidKinds := [.data, .pinned], laidTests := true, laidLooks := .later }
def SettledStateSpecUptoCardSaid : Prop := Claim7.holds Tryd.pinned (.plain (OpenSpec.upto settledStateSpecSpec)) settledStateSpecUptoCard

/-- THE SECOND FORM's CARD OF 'hansardlaw23.SettledWhole'. -/
def settledWholeUptoCard : Claim7 := { stood := { row := settledWholeUptoRow, standIns := [], harness := (true, "32d994823da477d4f600992d3aa6db29848915ac4f0e34c8f93436355ccc2265"), looks := true }, kinds := [], alts := [], laidByText := true, laidKinds := [.data, .pinned], laidTests := true, laidLooks := .later }
def SettledWholeUptoCardSaid : Prop := Claim7.holds Tryd.pinned (.plain (OpenSpec.upto settledWholeSpec)) settledWholeUptoCard

/-- THE SECOND FORM's CARD OF 'hansardlaw23.SettledEarlier'. -/
def settledEarlierUptoCard : Claim7 := { stood := { row := settledEarlierUptoRow, standIns := [], harness := (true, "32d994823da477d4f600992d3aa6db29848915ac4f0e34c8f93436355ccc2265"), looks := true }, kinds := [], alts := [], laidByText := true, laidKinds := [.data, .pinned], laidTests := true, laidLooks := .later }
def SettledEarlierUptoCardSaid : Prop := Claim7.holds Tryd.pinned (.plain (OpenSpec.upto settledEarlierSpec)) settledEarlierUptoCard

/-- THE SECOND FORM's CARD OF 'hansardlaw23.SettledRemains'. -/
def settledRemainsUptoCard : Claim7 := { stood := { row := settledRemainsUptoRow, standIns := [], harness := (true, "32d994823da477d4f600992d3aa6db29848915ac4f0e34c8f93436355ccc2265"), looks := true }, kinds := [], alts := [], laidByText := true, laidKinds := [.data, .pinned], laidTests := true, laidLooks := .later }
def SettledRemainsUptoCardSaid : Prop := Claim7.holds Tryd.pinned (.plain (OpenSpec.upto settledRemainsSpec)) settledRemainsUptoCard
end Rows
end Go.Proofs.YtlfpnfjibgeehaaDoor
