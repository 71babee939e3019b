/-
  DERIVED. GIVEN WITH THE SEED: THE CARDS: each row of YtabddhmejpknbaaDoorRows.lean that lists a variable, with what it lists TIED to the program's text (the seventh form; the later family's looks); each row that meets fmt, with fmt's text TOLD by the authors' own Lean function (tested against real Go, not proved from fmt's source: count such statements apart). THE CARD IS WHAT COUNTS. Prove the row's statement (the work); the ties are given (YtabddhmejpknbaaDoorTie.lean); close each card by the builder's one call (the guide's Derived/Test/ToyasCard.lean, 'card_holds'). Laid BY PROGRAM, IN A SANDBOX (cutbox-door.mjs). By AI agents, Wed Nov 11 2026. No macro, syntax, notation, axiom, sorry.
-/
import Derived.Test.YtabddhmejpknbaaDoorRows
import GoSem.ClaimSeven
namespace Go.Proofs.YtabddhmejpknbaaDoor
namespace Rows

/-- THE TIED CARD OF 'hansardlaw17.StreamSpec'. -/
def streamSpecCard : Claim7 := { stood := { row := streamSpecRow, standIns := [], harness := (true, "aaffd01b0fe2fd38c4170b8286e3c34972e0b527388e7e1badee901d36d5e57f"), looks := true }, kinds := [], alts := [], laidByText := true, laidKinds := [.data, .pinned], laidTests := true, laidLooks := .later }
def StreamSpecCardSaid : Prop := Claim7.holds Tryd.pinned (.plain (OpenSpec.ofChange streamSpecSpec)) streamSpecCard

/-- THE TIED CARD OF 'hansardlaw17.StreamDoSpec'. -/
def streamDoSpecCard : Claim7 := { stood := { row := streamDoSpecRow, standIns := [], harness := (true, "aaffd01b0fe2fd38c4170b8286e3c34972e0b527388e7e1badee901d36d5e57f"), looks := true }, kinds := [], alts := [], laidByText := true, laidKinds := [.data, .pinned], laidTests := true, laidLooks := .later }
def StreamDoSpecCardSaid : Prop := Claim7.holds Tryd.pinned (.plain (OpenSpec.ofChange streamDoSpecSpec)) streamDoSpecCard

/-- THE TIED CARD OF 'hansardlaw17.StreamFixed'. -/
def streamFixedCard : Claim7 := { stood := { row := streamFixedRow, standIns := [], harness := (true, "aaffd01b0fe2fd38c4170b8286e3c34972e0b527388e7e1badee901d36d5e57f"), looks := true }, kinds := [], alts := [], laidByText := true, laidKinds := [.data, .pinned], laidTests := true, laidLooks := .later }
def StreamFixedCardSaid : Prop := Claim7.holds Tryd.pinned (.plain (OpenSpec.ofChange streamFixedSpec)) streamFixedCard

/-- THE TIED CARD OF 'hansardlaw17.StreamBack'. -/
def streamBackCard : Claim7 := { stood := { row := streamBackRow, standIns := [], harness := (true, "aaffd01b0fe2fd38c4170b8286e3c34972e0b527388e7e1badee901d36d5e57f"), looks := true }, kinds := [], alts := [], laidByText := true, laidKinds := [.data, .pinned], laidTests := true, laidLooks := .later }
def StreamBackCardSaid : Prop := Claim7.holds Tryd.pinned (.plain (OpenSpec.ofChange streamBackSpec)) streamBackCard

/-- THE TIED CARD OF 'hansardlaw17.StreamAdds'. -/
def streamAddsCard : Claim7 := { stood := { row := streamAddsRow, standIns := [], harness := (true, "aaffd01b0fe2fd38c4170b8286e3c34972e0b527388e7e1badee901d36d5e57f"), looks := true }, kinds := [], alts := [], laidByText := true, laidKinds := [.data, .pinned], laidTests := true, laidLooks := .later }
def StreamAddsCardSaid : Prop := Claim7.holds Tryd.pinned (.plain (OpenSpec.ofChange streamAddsSpec)) streamAddsCard

/-- THE TIED CARD OF 'hansardlaw17.StreamApart'. -/
def streamApartCard : Claim7 := { stood := { row := streamApartRow, standIns := [], harness := (true, "aaffd01b0fe2fd38c4170b8286e3c34972e0b527388e7e1badee901d36d5e57f"), looks := true }, kinds := [], alts := [], laidByText := true, laidKinds := [.data, .pinned], laidTests := true, laidLooks := .later }
def StreamApartCardSaid : Prop := Claim7.holds Tryd.pinned (.plain (OpenSpec.ofChange streamApartSpec)) streamApartCard

/-- THE TIED CARD OF 'hansardlaw17.StreamFix'. -/
def streamFixCard : Claim7 := { stood := { row := streamFixRow, standIns := [], harness := (true, "aaffd01b0fe2fd38c4170b8286e3c34972e0b527388e7e1badee901d36d5e57f"), looks := true }, kinds := [], alts := [], laidByText := true, laidKinds := [.data, .pinned], laidTests := true, laidLooks := .later }
def StreamFixCardSaid : Prop := Claim7.holds Tryd.pinned (.plain (OpenSpec.ofChange streamFixSpec)) streamFixCard

/-- THE SECOND FORM's CARD OF 'hansardlaw17.StreamSpec'. -/
def streamSpecUptoCard : Claim7 := { stood := { row := streamSpecUptoRow, standIns := [], harness := (true, "aaffd01b0fe2fd38c4170b8286e3c34972e0b527388e7e1badee901d36d5e57f"), looks := true }, kinds := [], alts := [], laidByText := true, laidKinds := [.data, .pinned], laidTests := true, laidLooks := .later }
def StreamSpecUptoCardSaid : Prop := Claim7.holds Tryd.pinned (.plain (OpenSpec.upto streamSpecSpec)) streamSpecUptoCard

/-- THE SECOND FORM's CARD OF 'hansardlaw17.StreamDoSpec'. -/
def streamDoSpecUptoCard : Claim7 := { stood := { row := streamDoSpecUptoRow, standIns := [], harness := (true, "aaffd01b0fe2fd38c4170b8286e3c34972e0b527388e7e1badee901d36d5e57f"), looks := true }, kinds := [], alts := [], laidByText := true, laidKinds := [.data, .pinned], laidTests := true, laidLooks := .later }
def StreamDoSpecUptoCardSaid : Prop := Claim7.holds Tryd.pinned (.plain (OpenSpec.upto streamDoSpecSpec)) streamDoSpecUptoCard

/-- THE SECOND FORM's CARD OF 'hansardlaw17.StreamFixed'. -/
def streamFixedUptoCard : Claim7 := { stood := { row := streamFixedUptoRow, standIns := [], harness := (true, "aaffd01b0fe2fd38c4170b8286e3c34972e0b527388e7e1badee901d36d5e57f"), looks := true }, kinds := [], alts := [], laidByText := true, laidKinds := [.data, .pinned], laidTests := true, laidLooks := .later }
def StreamFixedUptoCardSaid : Prop := Claim7.holds Tryd.pinned (.plain (OpenSpec.upto streamFixedSpec)) streamFixedUptoCard

/-- THE SECOND FORM's CARD OF 'hansardlaw17.StreamBack'. -/
def streamBackUptoCard : Claim7 := { stood := { row := streamBackUptoRow, standIns := [], harness := (true, "aaffd01b0fe2fd38c4170b8286e3c34972e0b527388e7e1badee901d36d5e57f"), looks := true }, kinds := [], alts := [], laidByText := true, laidKinds := [.data, .pinned], laidTests := true, laidLooks := .later }
def StreamBackUptoCardSaid : Prop := Claim7.holds Tryd.pinned (.plain (OpenSpec.upto streamBackSpec)) streamBackUptoCard

/-- THE SECOND FORM's CARD OF 'hansardlaw17.StreamAdds'. -/
def streamAddsUptoCard : Claim7 := { stood := { row := streamAddsUptoRow, standIns := [], harness := (true, "aaffd01b0fe2fd38c4170b8286e3c34972e0b527388e7e1badee901d36d5e57f"), looks := true }, kinds := [], alts := [], laidByText := true, laidKinds := [.data, .pinned], laidTests := true, laidLooks := .later }
def StreamAddsUptoCardSaid : Prop := Claim7.holds Tryd.pinned (.plain (OpenSpec.upto streamAddsSpec)) streamAddsUptoCard

/-- THE SECOND FORM's CARD OF 'hansardlaw17.StreamApart'. -/
def streamApartUptoCard : Claim7 := { stood := { row := streamApartUptoRow, standIns := [], harness := (true, "aaffd01b0fe2fd38c4170b8286e3c34972e0b527388e7e1badee901d36d5e57f"), looks := true }, kinds := [], alts := [], laidByText := true, laidKinds := [.data, .pinned], laidTests := true, laidLooks := .later }
def StreamApartUptoCardSaid : Prop := Claim7.holds Tryd.pinned (.plain (OpenSpec.upto streamApartSpec)) streamApartUptoCard

/-- THE SECOND FORM's CARD OF 'hansardlaw17.StreamFix'. -/
def streamFixUptoCard : Claim7 := { stood := { row := streamFixUptoRow, standIns := [], harness := (true, "aaffd01b0fe2fd38c4170b8286e3c34972e0b527388e7e1badee901d36d5e57f"), looks := true }, kinds := [], alts := [], laidByText := true, laidKinds := [.data, .pinned], laidTests := true, laidLooks := .later }
def StreamFixUptoCardSaid : Prop := Claim7.holds Tryd.pinned (.plain (OpenSpec.upto streamFixSpec)) streamFixUptoCard
end Rows
end Go.Proofs.YtabddhmejpknbaaDoor
