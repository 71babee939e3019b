/-
  DERIVED. GIVEN WITH THE SEED: THE CARDS: each row of YteonapeaaepipaaDoorRows.lean that lists a variable, with what it lists TIED to the program's text (the seventh form; the later family's looks); each row that meets fmt, with fmt's text TOLD by the authors' own Lean function (tested against real Go, not proved from fmt's source: count such statements apart). THE CARD IS WHAT COUNTS. Prove the row's statement (the work); the ties are given (YteonapeaaepipaaDoorTie.lean); close each card by the builder's one call (the guide's Derived/Test/ToyasCard.lean, 'card_holds'). Laid BY PROGRAM, IN A SANDBOX (cutbox-door.mjs). By AI agents, Wed Nov 11 2026. No macro, syntax, notation, axiom, sorry.
-/
import Derived.Test.YteonapeaaepipaaDoorRows
import GoSem.ClaimSeven
namespace Go.Proofs.YteonapeaaepipaaDoor
namespace Rows

/-- THE TIED CARD OF 'hansardlaw23.SettledSpec'. -/
def settledSpecCard : Claim7 := { stood := { row := settledSpecRow, standIns := [], harness := (true, "accf4378bb9dca6fb8358e9e5fe2bdae25ae2745451b7a2b0450391db13a362a"), looks := true }, kinds := [], alts := [], laidByText := true, laidKinds := [.data, .pinned], laidTests := true, laidLooks := .later }
def SettledSpecCardSaid : Prop := Claim7.holds Tryd.pinned (.plain (OpenSpec.ofChange settledSpecSpec)) settledSpecCard

/-- THE TIED CARD OF 'hansardlaw23.SettledStateSpec'. -/
def settledStateSpecCard : Claim7 := { stood := { row := settledStateSpecRow, standIns := [], harness := (true, "accf4378bb9dca6fb8358e9e5fe2bdae25ae2745451b7a2b0450391db13a362a"), looks := true }, kinds := [], alts := [], laidByText := true, laidKinds := [.data, .pinned], laidTests := true, laidLooks := .later }
def SettledStateSpecCardSaid : Prop := Claim7.holds Tryd.pinned (.plain (OpenSpec.ofChange settledStateSpecSpec)) settledStateSpecCard

/-- THE TIED CARD OF 'hansardlaw23.SettledWhole'. -/
def settledWholeCard : Claim7 := { stood := { row := settledWholeRow, standIns := [], harness := (true, "accf4378bb9dca6fb8358e9e5fe2bdae25ae2745451b7a2b0450391db13a362a"), looks := true }, kinds := [], alts := [], laidByText := true, laidKinds := [.data, .pinned], laidTests := true, laidLooks := .later }
def SettledWholeCardSaid : Prop := Claim7.holds Tryd.pinned (.plain (OpenSpec.ofChange settledWholeSpec)) settledWholeCard

/-- THE TIED CARD OF 'hansardlaw23.SettledEarlier'. -/
def settledEarlierCard : Claim7 := { stood := { row := settledEarlierRow, standIns := [], harness := (true, "accf4378bb9dca6fb8358e9e5fe2bdae25ae2745451b7a2b0450391db13a362a"), looks := true }, kinds := [], alts := [], laidByText := true, laidKinds := [.data, .pinned], laidTests := true, laidLooks := .later }
def SettledEarlierCardSaid : Prop := Claim7.holds Tryd.pinned (.plain (OpenSpec.ofChange settledEarlierSpec)) settledEarlierCard

/-- THE TIED CARD OF 'hansardlaw23.SettledRemains'. -/
def settledRemainsCard : Claim7 := { stood := { row := settledRemainsRow, standIns := [], harness := (true, "accf4378bb9dca6fb8358e9e5fe2bdae25ae2745451b7a2b0450391db13a362a"), looks := true }, kinds := [], alts := [], laidByText := true, laidKinds := [.data, .pinned], laidTests := true, laidLooks := .later }
def SettledRemainsCardSaid : Prop := Claim7.holds Tryd.pinned (.plain (OpenSpec.ofChange settledRemainsSpec)) settledRemainsCard

/-- THE TIED CARD OF 'hansardlaw18.FeedsSpec'. -/
def feedsSpecCard : Claim7 := { stood := { row := feedsSpecRow, standIns := [], harness := (true, "accf4378bb9dca6fb8358e9e5fe2bdae25ae2745451b7a2b0450391db13a362a"), looks := true }, kinds := [], alts := [], laidByText := true, laidKinds := [.data, .pinned], laidTests := true, laidLooks := .later }
def FeedsSpecCardSaid : Prop := Claim7.holds Tryd.pinned (.plain (OpenSpec.ofChange feedsSpecSpec)) feedsSpecCard

/-- THE TIED CARD OF 'hansardlaw18.FeedsMissingSpec'. -/
def feedsMissingSpecCard : Claim7 := { stood := { row := feedsMissingSpecRow, standIns := [], harness := (true, "accf4378bb9dca6fb8358e9e5fe2bdae25ae2745451b7a2b0450391db13a362a"), looks := true }, kinds := [], alts := [], laidByText := true, laidKinds := [.data, .pinned], laidTests := true, laidLooks := .later }
def FeedsMissingSpecCardSaid : Prop := Claim7.holds Tryd.pinned (.plain (OpenSpec.ofChange feedsMissingSpecSpec)) feedsMissingSpecCard

/-- THE TIED CARD OF 'hansardlaw18.FeedsOrder'. -/
def feedsOrderCard : Claim7 := { stood := { row := feedsOrderRow, standIns := [], harness := (true, "accf4378bb9dca6fb8358e9e5fe2bdae25ae2745451b7a2b0450391db13a362a"), looks := true }, kinds := [], alts := [], laidByText := true, laidKinds := [.data, .pinned], laidTests := true, laidLooks := .later }
def FeedsOrderCardSaid : Prop := Claim7.holds Tryd.pinned (.plain (OpenSpec.ofChange feedsOrderSpec)) feedsOrderCard

/-- THE TIED CARD OF 'hansardlaw18.FeedsSet'. -/
def feedsSetCard : Claim7 := { stood := { row := feedsSetRow, standIns := [], harness := (true, "accf4378bb9dca6fb8358e9e5fe2bdae25ae2745451b7a2b0450391db13a362a"), looks := true }, kinds := [], alts := [], laidByText := true, laidKinds := [.data, .pinned], laidTests := true, laidLooks := .later }
def FeedsSetCardSaid : Prop := Claim7.holds Tryd.pinned (.plain (OpenSpec.ofChange feedsSetSpec)) feedsSetCard

/-- THE TIED CARD OF 'hansardlaw18.FeedsTwice'. -/
def feedsTwiceCard : Claim7 := { stood := { row := feedsTwiceRow, standIns := [], harness := (true, "accf4378bb9dca6fb8358e9e5fe2bdae25ae2745451b7a2b0450391db13a362a"), looks := true }, kinds := [], alts := [], laidByText := true, laidKinds := [.data, .pinned], laidTests := true, laidLooks := .later }
def FeedsTwiceCardSaid : Prop := Claim7.holds Tryd.pinned (.plain (OpenSpec.ofChange feedsTwiceSpec)) feedsTwiceCard

/-- THE SECOND FORM's CARD OF 'hansardlaw23.SettledSpec'. -/
def settledSpecUptoCard : Claim7 := { stood := { row := settledSpecUptoRow, standIns := [], harness := (true, "accf4378bb9dca6fb8358e9e5fe2bdae25ae2745451b7a2b0450391db13a362a"), looks := true }, kinds := [], alts := [], laidByText := true, laidKinds := [.data, .pinned], laidTests := true, laidLooks := .later }
def SettledSpecUptoCardSaid : Prop := Claim7.holds Tryd.pinned (.plain (OpenSpec.upto settledSpecSpec)) settledSpecUptoCard

/-- THE SECOND FORM's CARD OF 'hansardlaw23.SettledStateSpec'. -/
def settledStateSpecUptoCard : Claim7 := { stood := { row := settledStateSpecUptoRow, standIns := [], harness := (true, "accf4378bb9dca6fb8358e9e5fe2bdae25ae2745451b7a2b0450391db13a362a"), looks := true }, kinds := [], alts := [], laidByText := true, laidKinds := [.data, .pinned], laidTests := true, laidLooks := .later }
def SettledStateSpecUptoCardSaid : Prop := Claim7.holds Tryd.pinned (.plain (OpenSpec.upto settledStateSpecSpec)) settledStateSpecUptoCard

/-- THE SECOND FORM's CARD OF 'hansardlaw23.SettledWhole'. -/
def settledWholeUptoCard : Claim7 := { stood := { row := settledWholeUptoRow, standIns := [], harness := (true, "accf4378bb9dca6fb8358e9e5fe2bdae25ae2745451b7a2b0450391db13a362a"), looks := true }, kinds := [], alts := [], laidByText := true, laidKinds := [.data, .pinned], laidTests := true, laidLooks := .later }
def SettledWholeUptoCardSaid : Prop := Claim7.holds Tryd.pinned (.plain (OpenSpec.upto settledWholeSpec)) settledWholeUptoCard

/-- THE SECOND FORM's CARD OF 'hansardlaw23.SettledEarlier'. -/
def settledEarlierUptoCard : Claim7 := { stood := { row := settledEarlierUptoRow, standIns := [], harness := (true, "accf4378bb9dca6fb8358e9e5fe2bdae25ae2745451b7a2b0450391db13a362a"), looks := true }, kinds := [], alts := [], laidByText := true, laidKinds := [.data, .pinned], laidTests := true, laidLooks := .later }
def SettledEarlierUptoCardSaid : Prop := Claim7.holds Tryd.pinned (.plain (OpenSpec.upto settledEarlierSpec)) settledEarlierUptoCard

/-- THE SECOND FORM's CARD OF 'hansardlaw23.SettledRemains'. -/
def settledRemainsUptoCard : Claim7 := { stood := { row := settledRemainsUptoRow, standIns := [], harness := (true, "accf4378bb9dca6fb8358e9e5fe2bdae25ae2745451b7a2b0450391db13a362a"), looks := true }, kinds := [], alts := [], laidByText := true, laidKinds := [.data, .pinned], laidTests := true, laidLooks := .later }
def SettledRemainsUptoCardSaid : Prop := Claim7.holds Tryd.pinned (.plain (OpenSpec.upto settledRemainsSpec)) settledRemainsUptoCard

/-- THE SECOND FORM's CARD OF 'hansardlaw18.FeedsSpec'. -/
def feedsSpecUptoCard : Claim7 := { stood := { row := feedsSpecUptoRow, standIns := [], harness := (true, "accf4378bb9dca6fb8358e9e5fe2bdae25ae2745451b7a2b0450391db13a362a"), looks := true }, kinds := [], alts := [], laidByText := true, laidKinds := [.data, .pinned], laidTests := true, laidLooks := .later }
def FeedsSpecUptoCardSaid : Prop := Claim7.holds Tryd.pinned (.plain (OpenSpec.upto feedsSpecSpec)) feedsSpecUptoCard

/-- THE SECOND FORM's CARD OF 'hansardlaw18.FeedsMissingSpec'. -/
def feedsMissingSpecUptoCard : Claim7 := { stood := { row := feedsMissingSpecUptoRow, standIns := [], harness := (true, "accf4378bb9dca6fb8358e9e5fe2bdae25ae2745451b7a2b0450391db13a362a"), looks := true }, kinds := [], alts := [], laidByText := true, laidKinds := [.data, .pinned], laidTests := true, laidLooks := .later }
def FeedsMissingSpecUptoCardSaid : Prop := Claim7.holds Tryd.pinned (.plain (OpenSpec.upto feedsMissingSpecSpec)) feedsMissingSpecUptoCard

/-- THE SECOND FORM's CARD OF 'hansardlaw18.FeedsOrder'. -/
def feedsOrderUptoCard : Claim7 := { stood := { row := feedsOrderUptoRow, standIns := [], harness := (true, "accf4378bb9dca6fb8358e9e5fe2bdae25ae2745451b7a2b0450391db13a362a"), looks := true }, kinds := [], alts := [], laidByText := true, laidKinds := [.data, .pinned], laidTests := true, laidLooks := .later }
def FeedsOrderUptoCardSaid : Prop := Claim7.holds Tryd.pinned (.plain (OpenSpec.upto feedsOrderSpec)) feedsOrderUptoCard

/-- THE SECOND FORM's CARD OF 'hansardlaw18.FeedsSet'. -/
def feedsSetUptoCard : Claim7 := { stood := { row := feedsSetUptoRow, standIns := [], harness := (true, "accf4378bb9dca6fb8358e9e5fe2bdae25ae2745451b7a2b0450391db13a362a"), looks := true }, kinds := [], alts := [], laidByText := true, laidKinds := [.data, .pinned], laidTests := true, laidLooks := .later }
def FeedsSetUptoCardSaid : Prop := Claim7.holds Tryd.pinned (.plain (OpenSpec.upto feedsSetSpec)) feedsSetUptoCard

/-- THE SECOND FORM's CARD OF 'hansardlaw18.FeedsTwice'. -/
def feedsTwiceUptoCard : Claim7 := { stood := { row := feedsTwiceUptoRow, standIns := [], harness := (true, "accf4378bb9dca6fb8358e9e5fe2bdae25ae2745451b7a2b0450391db13a362a"), looks := true }, kinds := [], alts := [], laidByText := true, laidKinds := [.data, .pinned], laidTests := true, laidLooks := .later }
def FeedsTwiceUptoCardSaid : Prop := Claim7.holds Tryd.pinned (.plain (OpenSpec.upto feedsTwiceSpec)) feedsTwiceUptoCard
end Rows
end Go.Proofs.YteonapeaaepipaaDoor
