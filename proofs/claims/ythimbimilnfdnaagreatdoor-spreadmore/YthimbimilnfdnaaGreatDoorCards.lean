/-
  DERIVED. GIVEN WITH THE SEED: THE CARDS: each row of YthimbimilnfdnaaGreatDoorRows.lean that lists a variable, with what it lists TIED to the program's text (the seventh form; the later family's looks); each row that meets fmt, with fmt's text TOLD by the authors' own Lean function (tested against real Go, not proved from fmt's source: count such statements apart). THE CARD IS WHAT COUNTS. Prove the row's statement (the work); the ties are given (YthimbimilnfdnaaGreatDoorTie.lean); close each card by the builder's one call (the guide's Derived/Test/ToyasCard.lean, 'card_holds'). Laid BY PROGRAM, IN A SANDBOX (cutbox-door.mjs). By AI agents, Wed Nov 11 2026. No macro, syntax, notation, axiom, sorry.
-/
import Derived.Test.YthimbimilnfdnaaGreatDoorRows
import GoSem.ClaimSeven
namespace Go.Proofs.YthimbimilnfdnaaGreatDoor
namespace Rows

/-- THE TIED CARD OF 'hansardlaw53.SpreadSpec'. -/
def spreadSpecCard : Claim7 := { stood := { row := spreadSpecRow, standIns := [], harness := (true, "08b4b544a841c500e89e51014b1739fea5d60b25dc35391777405ee5e2679186"), looks := true }, kinds := [], alts := [], laidByText := true, laidKinds := [.data, .pinned], laidTests := true, laidLooks := .later }
def SpreadSpecCardSaid : Prop := Claim7.holds Tryz.pinned (.plain (OpenSpec.ofChange spreadSpecSpec)) spreadSpecCard

/-- THE TIED CARD OF 'hansardlaw53.SpreadSeenSpec'. -/
def spreadSeenSpecCard : Claim7 := { stood := { row := spreadSeenSpecRow, standIns := [], harness := (true, "08b4b544a841c500e89e51014b1739fea5d60b25dc35391777405ee5e2679186"), looks := true }, kinds := [], alts := [], laidByText := true, laidKinds := [.data, .pinned], laidTests := true, laidLooks := .later }
def SpreadSeenSpecCardSaid : Prop := Claim7.holds Tryz.pinned (.plain (OpenSpec.ofChange spreadSeenSpecSpec)) spreadSeenSpecCard

/-- THE TIED CARD OF 'hansardlaw53.SpreadConverge'. -/
def spreadConvergeCard : Claim7 := { stood := { row := spreadConvergeRow, standIns := [], harness := (true, "08b4b544a841c500e89e51014b1739fea5d60b25dc35391777405ee5e2679186"), looks := true }, kinds := [], alts := [], laidByText := true, laidKinds := [.data, .pinned], laidTests := true, laidLooks := .later }
def SpreadConvergeCardSaid : Prop := Claim7.holds Tryz.pinned (.plain (OpenSpec.ofChange spreadConvergeSpec)) spreadConvergeCard

/-- THE TIED CARD OF 'hansardlaw53.SpreadKnown'. -/
def spreadKnownCard : Claim7 := { stood := { row := spreadKnownRow, standIns := [], harness := (true, "08b4b544a841c500e89e51014b1739fea5d60b25dc35391777405ee5e2679186"), looks := true }, kinds := [], alts := [], laidByText := true, laidKinds := [.data, .pinned], laidTests := true, laidLooks := .later }
def SpreadKnownCardSaid : Prop := Claim7.holds Tryz.pinned (.plain (OpenSpec.ofChange spreadKnownSpec)) spreadKnownCard

/-- THE TIED CARD OF 'hansardlaw53.SpreadOrder'. -/
def spreadOrderCard : Claim7 := { stood := { row := spreadOrderRow, standIns := [], harness := (true, "08b4b544a841c500e89e51014b1739fea5d60b25dc35391777405ee5e2679186"), looks := true }, kinds := [], alts := [], laidByText := true, laidKinds := [.data, .pinned], laidTests := true, laidLooks := .later }
def SpreadOrderCardSaid : Prop := Claim7.holds Tryz.pinned (.plain (OpenSpec.ofChange spreadOrderSpec)) spreadOrderCard

/-- THE TIED CARD OF 'hansardlaw53.SpreadSeen'. -/
def spreadSeenCard : Claim7 := { stood := { row := spreadSeenRow, standIns := [], harness := (true, "08b4b544a841c500e89e51014b1739fea5d60b25dc35391777405ee5e2679186"), looks := true }, kinds := [], alts := [], laidByText := true, laidKinds := [.data, .pinned], laidTests := true, laidLooks := .later }
def SpreadSeenCardSaid : Prop := Claim7.holds Tryz.pinned (.plain (OpenSpec.ofChange spreadSeenSpec)) spreadSeenCard

/-- THE TIED CARD OF 'hansardlaw53.SpreadMore'. -/
def spreadMoreCard : Claim7 := { stood := { row := spreadMoreRow, standIns := [], harness := (true, "08b4b544a841c500e89e51014b1739fea5d60b25dc35391777405ee5e2679186"), looks := true }, kinds := [], alts := [], laidByText := true, laidKinds := [.data, .pinned], laidTests := true, laidLooks := .later }
def SpreadMoreCardSaid : Prop := Claim7.holds Tryz.pinned (.plain (OpenSpec.ofChange spreadMoreSpec)) spreadMoreCard

/-- THE SECOND FORM's CARD OF 'hansardlaw53.SpreadSpec'. -/
def spreadSpecUptoCard : Claim7 := { stood := { row := spreadSpecUptoRow, standIns := [], harness := (true, "08b4b544a841c500e89e51014b1739fea5d60b25dc35391777405ee5e2679186"), looks := true }, kinds := [], alts := [], laidByText := true, laidKinds := [.data, .pinned], laidTests := true, laidLooks := .later }
def SpreadSpecUptoCardSaid : Prop := Claim7.holds Tryz.pinned (.plain (OpenSpec.upto spreadSpecSpec)) spreadSpecUptoCard

/-- THE SECOND FORM's CARD OF 'hansardlaw53.SpreadSeenSpec'. -/
def spreadSeenSpecUptoCard : Claim7 := { stood := { row := spreadSeenSpecUptoRow, standIns := [], harness := (true, "08b4b544a841c500e89e51014b1739fea5d60b25dc35391777405ee5e2679186"), looks := true }, kinds := [], alts := [], laidByText := true, laidKinds := [.data, .pinned], laidTests := true, laidLooks := .later }
def SpreadSeenSpecUptoCardSaid : Prop := Claim7.holds Tryz.pinned (.plain (OpenSpec.upto spreadSeenSpecSpec)) spreadSeenSpecUptoCard

/-- THE SECOND FORM's CARD OF 'hansardlaw53.SpreadConverge'. -/
def spreadConvergeUptoCard : Claim7 := { stood := { row := spreadConvergeUptoRow, standIns := [], harness := (true, "08b4b544a841c500e89e51014b1739fea5d60b25dc35391777405ee5e2679186"), looks := true }, kinds := [], alts := [], laidByText := true, laidKinds := [.data, .pinned], laidTests := true, laidLooks := .later }
def SpreadConvergeUptoCardSaid : Prop := Claim7.holds Tryz.pinned (.plain (OpenSpec.upto spreadConvergeSpec)) spreadConvergeUptoCard

/-- THE SECOND FORM's CARD OF 'hansardlaw53.SpreadKnown'. -/
def spreadKnownUptoCard : Claim7 := { stood := { row := spreadKnownUptoRow, standIns := [], harness := (true, "08b4b544a841c500e89e51014b1739fea5d60b25dc35391777405ee5e2679186"), looks := true }, kinds := [], alts := [], laidByText := true, laidKinds := [.data, .pinned], laidTests := true, laidLooks := .later }
def SpreadKnownUptoCardSaid : Prop := Claim7.holds Tryz.pinned (.plain (OpenSpec.upto spreadKnownSpec)) spreadKnownUptoCard

/-- THE SECOND FORM's CARD OF 'hansardlaw53.SpreadOrder'. -/
def spreadOrderUptoCard : Claim7 := { stood := { row := spreadOrderUptoRow, standIns := [], harness := (true, "08b4b544a841c500e89e51014b1739fea5d60b25dc35391777405ee5e2679186"), looks := true }, kinds := [], alts := [], laidByText := true, laidKinds := [.data, .pinned], laidTests := true, laidLooks := .later }
def SpreadOrderUptoCardSaid : Prop := Claim7.holds Tryz.pinned (.plain (OpenSpec.upto spreadOrderSpec)) spreadOrderUptoCard

/-- THE SECOND FORM's CARD OF 'hansardlaw53.SpreadSeen'. -/
def spreadSeenUptoCard : Claim7 := { stood := { row := spreadSeenUptoRow, standIns := [], harness := (true, "08b4b544a841c500e89e51014b1739fea5d60b25dc35391777405ee5e2679186"), looks := true }, kinds := [], alts := [], laidByText := true, laidKinds := [.data, .pinned], laidTests := true, laidLooks := .later }
def SpreadSeenUptoCardSaid : Prop := Claim7.holds Tryz.pinned (.plain (OpenSpec.upto spreadSeenSpec)) spreadSeenUptoCard

/-- THE SECOND FORM's CARD OF 'hansardlaw53.SpreadMore'. -/
def spreadMoreUptoCard : Claim7 := { stood := { row := spreadMoreUptoRow, standIns := [], harness := (true, "08b4b544a841c500e89e51014b1739fea5d60b25dc35391777405ee5e2679186"), looks := true }, kinds := [], alts := [], laidByText := true, laidKinds := [.data, .pinned], laidTests := true, laidLooks := .later }
def SpreadMoreUptoCardSaid : Prop := Claim7.holds Tryz.pinned (.plain (OpenSpec.upto spreadMoreSpec)) spreadMoreUptoCard
end Rows
end Go.Proofs.YthimbimilnfdnaaGreatDoor
