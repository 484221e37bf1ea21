/-
  DERIVED. GIVEN WITH THE SEED: THE CARDS: each row of YtmheleifjpfciaaDoorRows.lean that lists a variable, with what it lists TIED to the program's text (the seventh form; the later family's looks); each row that meets fmt, with fmt's text TOLD by the authors' own Lean function (tested against real Go, not proved from fmt's source: count such statements apart). THE CARD IS WHAT COUNTS. Prove the row's statement (the work); the ties are given (YtmheleifjpfciaaDoorTie.lean); close each card by the builder's one call (the guide's Derived/Test/ToyasCard.lean, 'card_holds'). Laid BY PROGRAM, IN A SANDBOX (cutbox-door.mjs). By AI agents, Wed Nov 11 2026. No macro, syntax, notation, axiom, sorry.
-/
import Derived.Test.YtmheleifjpfciaaDoorRows
import GoSem.ClaimSeven
namespace Go.Proofs.YtmheleifjpfciaaDoor
namespace Rows

/-- THE TIED CARD OF 'limnerlaw07.ParserTell'. -/
def parserTellCard : Claim7 := { stood := { row := parserTellRow, standIns := [], harness := (true, "4e3e47c36f6a1859cdc73b5c48e1524db70c8976f95dab7b949f034d2a97f11e"), looks := false }, kinds := [], alts := [], laidByText := true, laidKinds := [.data, .pinned], laidTests := true, laidLooks := .later }
def ParserTellCardSaid : Prop := Claim7.holds Tryd.pinned (.plain (OpenSpec.ofChange parserTellSpec)) parserTellCard

/-- THE TIED CARD OF 'limnerlaw07.ParserPairs'. -/
def parserPairsCard : Claim7 := { stood := { row := parserPairsRow, standIns := [], harness := (true, "4e3e47c36f6a1859cdc73b5c48e1524db70c8976f95dab7b949f034d2a97f11e"), looks := false }, kinds := [], alts := [], laidByText := true, laidKinds := [.data, .pinned], laidTests := true, laidLooks := .later }
def ParserPairsCardSaid : Prop := Claim7.holds Tryd.pinned (.plain (OpenSpec.ofChange parserPairsSpec)) parserPairsCard

/-- THE TIED CARD OF 'limnerlaw07.ParserFew'. -/
def parserFewCard : Claim7 := { stood := { row := parserFewRow, standIns := [], harness := (true, "4e3e47c36f6a1859cdc73b5c48e1524db70c8976f95dab7b949f034d2a97f11e"), looks := false }, kinds := [], alts := [], laidByText := true, laidKinds := [.data, .pinned], laidTests := true, laidLooks := .later }
def ParserFewCardSaid : Prop := Claim7.holds Tryd.pinned (.plain (OpenSpec.ofChange parserFewSpec)) parserFewCard

/-- THE TIED CARD OF 'limnerlaw07.ParserParts'. -/
def parserPartsCard : Claim7 := { stood := { row := parserPartsRow, standIns := [], harness := (true, "4e3e47c36f6a1859cdc73b5c48e1524db70c8976f95dab7b949f034d2a97f11e"), looks := false }, kinds := [], alts := [], laidByText := true, laidKinds := [.data, .pinned], laidTests := true, laidLooks := .later }
def ParserPartsCardSaid : Prop := Claim7.holds Tryd.pinned (.plain (OpenSpec.ofChange parserPartsSpec)) parserPartsCard

/-- THE TIED CARD OF 'limnerlaw07.ParserControl'. -/
def parserControlCard : Claim7 := { stood := { row := parserControlRow, standIns := [], harness := (true, "4e3e47c36f6a1859cdc73b5c48e1524db70c8976f95dab7b949f034d2a97f11e"), looks := false }, kinds := [], alts := [], laidByText := true, laidKinds := [.data, .pinned], laidTests := true, laidLooks := .later }
def ParserControlCardSaid : Prop := Claim7.holds Tryd.pinned (.plain (OpenSpec.ofChange parserControlSpec)) parserControlCard

/-- THE SECOND FORM's CARD OF 'limnerlaw07.ParserTell'. -/
def parserTellUptoCard : Claim7 := { stood := { row := parserTellUptoRow, standIns := [], harness := (true, "4e3e47c36f6a1859cdc73b5c48e1524db70c8976f95dab7b949f034d2a97f11e"), looks := false }, kinds := [], alts := [], laidByText := true, laidKinds := [.data, .pinned], laidTests := true, laidLooks := .later }
def ParserTellUptoCardSaid : Prop := Claim7.holds Tryd.pinned (.plain (OpenSpec.upto parserTellSpec)) parserTellUptoCard

/-- THE SECOND FORM's CARD OF 'limnerlaw07.ParserPairs'. -/
def parserPairsUptoCard : Claim7 := { stood := { row := parserPairsUptoRow, standIns := [], harness := (true, "4e3e47c36f6a1859cdc73b5c48e1524db70c8976f95dab7b949f034d2a97f11e"), looks := false }, kinds := [], alts := [], laidByText := true, laidKinds := [.data, .pinned], laidTests := true, laidLooks := .later }
def ParserPairsUptoCardSaid : Prop := Claim7.holds Tryd.pinned (.plain (OpenSpec.upto parserPairsSpec)) parserPairsUptoCard

/-- THE SECOND FORM's CARD OF 'limnerlaw07.ParserFew'. -/
def parserFewUptoCard : Claim7 := { stood := { row := parserFewUptoRow, standIns := [], harness := (true, "4e3e47c36f6a1859cdc73b5c48e1524db70c8976f95dab7b949f034d2a97f11e"), looks := false }, kinds := [], alts := [], laidByText := true, laidKinds := [.data, .pinned], laidTests := true, laidLooks := .later }
def ParserFewUptoCardSaid : Prop := Claim7.holds Tryd.pinned (.plain (OpenSpec.upto parserFewSpec)) parserFewUptoCard

/-- THE SECOND FORM's CARD OF 'limnerlaw07.ParserParts'. -/
def parserPartsUptoCard : Claim7 := { stood := { row := parserPartsUptoRow, standIns := [], harness := (true, "4e3e47c36f6a1859cdc73b5c48e1524db70c8976f95dab7b949f034d2a97f11e"), looks := false }, kinds := [], alts := [], laidByText := true, laidKinds := [.data, .pinned], laidTests := true, laidLooks := .later }
def ParserPartsUptoCardSaid : Prop := Claim7.holds Tryd.pinned (.plain (OpenSpec.upto parserPartsSpec)) parserPartsUptoCard

/-- THE SECOND FORM's CARD OF 'limnerlaw07.ParserControl'. -/
def parserControlUptoCard : Claim7 := { stood := { row := parserControlUptoRow, standIns := [], harness := (true, "4e3e47c36f6a1859cdc73b5c48e1524db70c8976f95dab7b949f034d2a97f11e"), looks := false }, kinds := [], alts := [], laidByText := true, laidKinds := [.data, .pinned], laidTests := true, laidLooks := .later }
def ParserControlUptoCardSaid : Prop := Claim7.holds Tryd.pinned (.plain (OpenSpec.upto parserControlSpec)) parserControlUptoCard
end Rows
end Go.Proofs.YtmheleifjpfciaaDoor
