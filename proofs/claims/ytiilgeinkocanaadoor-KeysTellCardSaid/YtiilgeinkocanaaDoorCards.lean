/-
  DERIVED. GIVEN WITH THE SEED: THE CARDS: each row of YtiilgeinkocanaaDoorRows.lean that lists a variable, with what it lists TIED to the program's text (the seventh form; the later family's looks); each row that meets fmt, with fmt's text TOLD by the authors' own Lean function (tested against real Go, not proved from fmt's source: count such statements apart). THE CARD IS WHAT COUNTS. Prove the row's statement (the work); the ties are given (YtiilgeinkocanaaDoorTie.lean); close each card by the builder's one call (the guide's Derived/Test/ToyasCard.lean, 'card_holds'). Laid BY PROGRAM, IN A SANDBOX (cutbox-door.mjs). By AI agents, Wed Nov 11 2026. No macro, syntax, notation, axiom, sorry.
-/
import Derived.Test.YtiilgeinkocanaaDoorRows
import GoSem.ClaimSeven
namespace Go.Proofs.YtiilgeinkocanaaDoor
namespace Rows

/-- THE TIED CARD OF 'limnerlaw09.KeysBytes'. -/
def keysBytesCard : Claim7 := { stood := { row := keysBytesRow, standIns := [], harness := (true, "9a9b15106055ab4ea8459c66875809d9cbcc91ecd50ee660ee57b3681305a602"), looks := true }, kinds := [], alts := [], laidByText := true, laidKinds := [.data, .widerDeep, .widerDeep, .pinned], laidTests := true, laidLooks := .later }
def KeysBytesCardSaid : Prop := Claim7.holds Tryd.pinned (.plain (OpenSpec.ofChange keysBytesSpec)) keysBytesCard

/-- THE TIED CARD OF 'limnerlaw09.KeysTell'. -/
def keysTellCard : Claim7 := { stood := { row := keysTellRow, standIns := [], harness := (true, "9a9b15106055ab4ea8459c66875809d9cbcc91ecd50ee660ee57b3681305a602"), looks := true }, kinds := [], alts := [], laidByText := true, laidKinds := [.data, .widerDeep, .widerDeep, .pinned], laidTests := true, laidLooks := .later }
def KeysTellCardSaid : Prop := Claim7.holds Tryd.pinned (.plain (OpenSpec.ofChange keysTellSpec)) keysTellCard

/-- THE TIED CARD OF 'limnerlaw09.KeysPaste'. -/
def keysPasteCard : Claim7 := { stood := { row := keysPasteRow, standIns := [], harness := (true, "9a9b15106055ab4ea8459c66875809d9cbcc91ecd50ee660ee57b3681305a602"), looks := true }, kinds := [], alts := [], laidByText := true, laidKinds := [.data, .widerDeep, .widerDeep, .pinned], laidTests := true, laidLooks := .later }
def KeysPasteCardSaid : Prop := Claim7.holds Tryd.pinned (.plain (OpenSpec.ofChange keysPasteSpec)) keysPasteCard

/-- THE TIED CARD OF 'limnerlaw09.KeysNone'. -/
def keysNoneCard : Claim7 := { stood := { row := keysNoneRow, standIns := [], harness := (true, "9a9b15106055ab4ea8459c66875809d9cbcc91ecd50ee660ee57b3681305a602"), looks := true }, kinds := [], alts := [], laidByText := true, laidKinds := [.data, .widerDeep, .widerDeep, .pinned], laidTests := true, laidLooks := .later }
def KeysNoneCardSaid : Prop := Claim7.holds Tryd.pinned (.plain (OpenSpec.ofChange keysNoneSpec)) keysNoneCard

/-- THE TIED CARD OF 'limnerlaw09.KeysRunes'. -/
def keysRunesCard : Claim7 := { stood := { row := keysRunesRow, standIns := [], harness := (true, "9a9b15106055ab4ea8459c66875809d9cbcc91ecd50ee660ee57b3681305a602"), looks := true }, kinds := [], alts := [], laidByText := true, laidKinds := [.data, .widerDeep, .widerDeep, .pinned], laidTests := true, laidLooks := .later }
def KeysRunesCardSaid : Prop := Claim7.holds Tryd.pinned (.plain (OpenSpec.ofChange keysRunesSpec)) keysRunesCard

/-- THE TIED CARD OF 'limnerlaw09.KeysTick'. -/
def keysTickCard : Claim7 := { stood := { row := keysTickRow, standIns := [], harness := (true, "9a9b15106055ab4ea8459c66875809d9cbcc91ecd50ee660ee57b3681305a602"), looks := true }, kinds := [], alts := [], laidByText := true, laidKinds := [.data, .widerDeep, .widerDeep, .pinned], laidTests := true, laidLooks := .later }
def KeysTickCardSaid : Prop := Claim7.holds Tryd.pinned (.plain (OpenSpec.ofChange keysTickSpec)) keysTickCard

/-- THE SECOND FORM's CARD OF 'limnerlaw09.KeysBytes'. -/
def keysBytesUptoCard : Claim7 := { stood := { row := keysBytesUptoRow, standIns := [], harness := (true, "9a9b15106055ab4ea8459c66875809d9cbcc91ecd50ee660ee57b3681305a602"), looks := true }, kinds := [], alts := [], laidByText := true, laidKinds := [.data, .widerDeep, .widerDeep, .pinned], laidTests := true, laidLooks := .later }
def KeysBytesUptoCardSaid : Prop := Claim7.holds Tryd.pinned (.plain (OpenSpec.upto keysBytesSpec)) keysBytesUptoCard

/-- THE SECOND FORM's CARD OF 'limnerlaw09.KeysTell'. -/
def keysTellUptoCard : Claim7 := { stood := { row := keysTellUptoRow, standIns := [], harness := (true, "9a9b15106055ab4ea8459c66875809d9cbcc91ecd50ee660ee57b3681305a602"), looks := true }, kinds := [], alts := [], laidByText := true, laidKinds := [.data, .widerDeep, .widerDeep, .pinned], laidTests := true, laidLooks := .later }
def KeysTellUptoCardSaid : Prop := Claim7.holds Tryd.pinned (.plain (OpenSpec.upto keysTellSpec)) keysTellUptoCard

/-- THE SECOND FORM's CARD OF 'limnerlaw09.KeysPaste'. -/
def keysPasteUptoCard : Claim7 := { stood := { row := keysPasteUptoRow, standIns := [], harness := (true, "9a9b15106055ab4ea8459c66875809d9cbcc91ecd50ee660ee57b3681305a602"), looks := true }, kinds := [], alts := [], laidByText := true, laidKinds := [.data, .widerDeep, .widerDeep, .pinned], laidTests := true, laidLooks := .later }
def KeysPasteUptoCardSaid : Prop := Claim7.holds Tryd.pinned (.plain (OpenSpec.upto keysPasteSpec)) keysPasteUptoCard

/-- THE SECOND FORM's CARD OF 'limnerlaw09.KeysNone'. -/
def keysNoneUptoCard : Claim7 := { stood := { row := keysNoneUptoRow, standIns := [], harness := (true, "9a9b15106055ab4ea8459c66875809d9cbcc91ecd50ee660ee57b3681305a602"), looks := true }, kinds := [], alts := [], laidByText := true, laidKinds := [.data, .widerDeep, .widerDeep, .pinned], laidTests := true, laidLooks := .later }
def KeysNoneUptoCardSaid : Prop := Claim7.holds Tryd.pinned (.plain (OpenSpec.upto keysNoneSpec)) keysNoneUptoCard

/-- THE SECOND FORM's CARD OF 'limnerlaw09.KeysRunes'. -/
def keysRunesUptoCard : Claim7 := { stood := { row := keysRunesUptoRow, standIns := [], harness := (true, "9a9b15106055ab4ea8459c66875809d9cbcc91ecd50ee660ee57b3681305a602"), looks := true }, kinds := [], alts := [], laidByText := true, laidKinds := [.data, .widerDeep, .widerDeep, .pinned], laidTests := true, laidLooks := .later }
def KeysRunesUptoCardSaid : Prop := Claim7.holds Tryd.pinned (.plain (OpenSpec.upto keysRunesSpec)) keysRunesUptoCard

/-- THE SECOND FORM's CARD OF 'limnerlaw09.KeysTick'. -/
def keysTickUptoCard : Claim7 := { stood := { row := keysTickUptoRow, standIns := [], harness := (true, "9a9b15106055ab4ea8459c66875809d9cbcc91ecd50ee660ee57b3681305a602"), looks := true }, kinds := [], alts := [], laidByText := true, laidKinds := [.data, .widerDeep, .widerDeep, .pinned], laidTests := true, laidLooks := .later }
def KeysTickUptoCardSaid : Prop := Claim7.holds Tryd.pinned (.plain (OpenSpec.upto keysTickSpec)) keysTickUptoCard
end Rows
end Go.Proofs.YtiilgeinkocanaaDoor
