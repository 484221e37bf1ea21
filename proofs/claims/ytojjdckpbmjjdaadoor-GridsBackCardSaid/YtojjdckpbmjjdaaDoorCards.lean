/-
  DERIVED. GIVEN WITH THE SEED: THE CARDS: each row of YtojjdckpbmjjdaaDoorRows.lean that lists a variable, with what it lists TIED to the program's text (the seventh form; the later family's looks); each row that meets fmt, with fmt's text TOLD by the authors' own Lean function (tested against real Go, not proved from fmt's source: count such statements apart). THE CARD IS WHAT COUNTS. Prove the row's statement (the work); the ties are given (YtojjdckpbmjjdaaDoorTie.lean); close each card by the builder's one call (the guide's Derived/Test/ToyasCard.lean, 'card_holds'). Laid BY PROGRAM, IN A SANDBOX (cutbox-door.mjs). By AI agents, Wed Nov 11 2026. No macro, syntax, notation, axiom, sorry.
-/
import Derived.Test.YtojjdckpbmjjdaaDoorRows
import GoSem.ClaimSeven
namespace Go.Proofs.YtojjdckpbmjjdaaDoor
namespace Rows

/-- THE TIED CARD OF 'limnerlaw06.GridsPut'. -/
def gridsPutCard : Claim7 := { stood := { row := gridsPutRow, standIns := [], harness := (true, "a8fe69805ca5a0ef5b811e19861b5d27f855ba38ba0ba03f61510dd5a88c53e5"), looks := false }, kinds := [], alts := [], laidByText := true, laidKinds := [.widerDeep, .widerDeep, .data], laidTests := true, laidLooks := .later }
def GridsPutCardSaid : Prop := Claim7.holds Tryd.pinned (.plain (OpenSpec.ofChange gridsPutSpec)) gridsPutCard

/-- THE TIED CARD OF 'limnerlaw06.GridsRaw'. -/
def gridsRawCard : Claim7 := { stood := { row := gridsRawRow, standIns := [], harness := (true, "a8fe69805ca5a0ef5b811e19861b5d27f855ba38ba0ba03f61510dd5a88c53e5"), looks := false }, kinds := [], alts := [], laidByText := true, laidKinds := [.widerDeep, .widerDeep, .data], laidTests := true, laidLooks := .later }
def GridsRawCardSaid : Prop := Claim7.holds Tryd.pinned (.plain (OpenSpec.ofChange gridsRawSpec)) gridsRawCard

/-- THE TIED CARD OF 'limnerlaw06.GridsResize'. -/
def gridsResizeCard : Claim7 := { stood := { row := gridsResizeRow, standIns := [], harness := (true, "a8fe69805ca5a0ef5b811e19861b5d27f855ba38ba0ba03f61510dd5a88c53e5"), looks := false }, kinds := [], alts := [], laidByText := true, laidKinds := [.widerDeep, .widerDeep, .data], laidTests := true, laidLooks := .later }
def GridsResizeCardSaid : Prop := Claim7.holds Tryd.pinned (.plain (OpenSpec.ofChange gridsResizeSpec)) gridsResizeCard

/-- THE TIED CARD OF 'limnerlaw06.GridsKeep'. -/
def gridsKeepCard : Claim7 := { stood := { row := gridsKeepRow, standIns := [], harness := (true, "a8fe69805ca5a0ef5b811e19861b5d27f855ba38ba0ba03f61510dd5a88c53e5"), looks := false }, kinds := [], alts := [], laidByText := true, laidKinds := [.widerDeep, .widerDeep, .data], laidTests := true, laidLooks := .later }
def GridsKeepCardSaid : Prop := Claim7.holds Tryd.pinned (.plain (OpenSpec.ofChange gridsKeepSpec)) gridsKeepCard

/-- THE TIED CARD OF 'limnerlaw06.GridsBack'. -/
def gridsBackCard : Claim7 := { stood := { row := gridsBackRow, standIns := [], harness := (true, "a8fe69805ca5a0ef5b811e19861b5d27f855ba38ba0ba03f61510dd5a88c53e5"), looks := false }, kinds := [], alts := [], laidByText := true, laidKinds := [.widerDeep, .widerDeep, .data], laidTests := true, laidLooks := .later }
def GridsBackCardSaid : Prop := Claim7.holds Tryd.pinned (.plain (OpenSpec.ofChange gridsBackSpec)) gridsBackCard

/-- THE TIED CARD OF 'limnerlaw06.GridsSame'. -/
def gridsSameCard : Claim7 := { stood := { row := gridsSameRow, standIns := [], harness := (true, "a8fe69805ca5a0ef5b811e19861b5d27f855ba38ba0ba03f61510dd5a88c53e5"), looks := false }, kinds := [], alts := [], laidByText := true, laidKinds := [.widerDeep, .widerDeep, .data], laidTests := true, laidLooks := .later }
def GridsSameCardSaid : Prop := Claim7.holds Tryd.pinned (.plain (OpenSpec.ofChange gridsSameSpec)) gridsSameCard

/-- THE SECOND FORM's CARD OF 'limnerlaw06.GridsPut'. -/
def gridsPutUptoCard : Claim7 := { stood := { row := gridsPutUptoRow, standIns := [], harness := (true, "a8fe69805ca5a0ef5b811e19861b5d27f855ba38ba0ba03f61510dd5a88c53e5"), looks := false }, kinds := [], alts := [], laidByText := true, laidKinds := [.widerDeep, .widerDeep, .data], laidTests := true, laidLooks := .later }
def GridsPutUptoCardSaid : Prop := Claim7.holds Tryd.pinned (.plain (OpenSpec.upto gridsPutSpec)) gridsPutUptoCard

/-- THE SECOND FORM's CARD OF 'limnerlaw06.GridsRaw'. -/
def gridsRawUptoCard : Claim7 := { stood := { row := gridsRawUptoRow, standIns := [], harness := (true, "a8fe69805ca5a0ef5b811e19861b5d27f855ba38ba0ba03f61510dd5a88c53e5"), looks := false }, kinds := [], alts := [], laidByText := true, laidKinds := [.widerDeep, .widerDeep, .data], laidTests := true, laidLooks := .later }
def GridsRawUptoCardSaid : Prop := Claim7.holds Tryd.pinned (.plain (OpenSpec.upto gridsRawSpec)) gridsRawUptoCard

/-- THE SECOND FORM's CARD OF 'limnerlaw06.GridsResize'. -/
def gridsResizeUptoCard : Claim7 := { stood := { row := gridsResizeUptoRow, standIns := [], harness := (true, "a8fe69805ca5a0ef5b811e19861b5d27f855ba38ba0ba03f61510dd5a88c53e5"), looks := false }, kinds := [], alts := [], laidByText := true, laidKinds := [.widerDeep, .widerDeep, .data], laidTests := true, laidLooks := .later }
def GridsResizeUptoCardSaid : Prop := Claim7.holds Tryd.pinned (.plain (OpenSpec.upto gridsResizeSpec)) gridsResizeUptoCard

/-- THE SECOND FORM's CARD OF 'limnerlaw06.GridsKeep'. -/
def gridsKeepUptoCard : Claim7 := { stood := { row := gridsKeepUptoRow, standIns := [], harness := (true, "a8fe69805ca5a0ef5b811e19861b5d27f855ba38ba0ba03f61510dd5a88c53e5"), looks := false }, kinds := [], alts := [], laidByText := true, laidKinds := [.widerDeep, .widerDeep, .data], laidTests := true, laidLooks := .later }
def GridsKeepUptoCardSaid : Prop := Claim7.holds Tryd.pinned (.plain (OpenSpec.upto gridsKeepSpec)) gridsKeepUptoCard

/-- THE SECOND FORM's CARD OF 'limnerlaw06.GridsBack'. -/
def gridsBackUptoCard : Claim7 := { stood := { row := gridsBackUptoRow, standIns := [], harness := (true, "a8fe69805ca5a0ef5b811e19861b5d27f855ba38ba0ba03f61510dd5a88c53e5"), looks := false }, kinds := [], alts := [], laidByText := true, laidKinds := [.widerDeep, .widerDeep, .data], laidTests := true, laidLooks := .later }
def GridsBackUptoCardSaid : Prop := Claim7.holds Tryd.pinned (.plain (OpenSpec.upto gridsBackSpec)) gridsBackUptoCard

/-- THE SECOND FORM's CARD OF 'limnerlaw06.GridsSame'. -/
def gridsSameUptoCard : Claim7 := { stood := { row := gridsSameUptoRow, standIns := [], harness := (true, "a8fe69805ca5a0ef5b811e19861b5d27f855ba38ba0ba03f61510dd5a88c53e5"), looks := false }, kinds := [], alts := [], laidByText := true, laidKinds := [.widerDeep, .widerDeep, .data], laidTests := true, laidLooks := .later }
def GridsSameUptoCardSaid : Prop := Claim7.holds Tryd.pinned (.plain (OpenSpec.upto gridsSameSpec)) gridsSameUptoCard
end Rows
end Go.Proofs.YtojjdckpbmjjdaaDoor
