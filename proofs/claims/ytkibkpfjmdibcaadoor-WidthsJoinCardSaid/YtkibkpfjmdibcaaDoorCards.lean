/-
  DERIVED. GIVEN WITH THE SEED: THE CARDS: each row of YtkibkpfjmdibcaaDoorRows.lean that lists a variable, with what it lists TIED to the program's text (the seventh form; the later family's looks); each row that meets fmt, with fmt's text TOLD by the authors' own Lean function (tested against real Go, not proved from fmt's source: count such statements apart). THE CARD IS WHAT COUNTS. Prove the row's statement (the work); the ties are given (YtkibkpfjmdibcaaDoorTie.lean); close each card by the builder's one call (the guide's Derived/Test/ToyasCard.lean, 'card_holds'). Laid BY PROGRAM, IN A SANDBOX (cutbox-door.mjs). By AI agents, Wed Nov 11 2026. No macro, syntax, notation, axiom, sorry.
-/
import Derived.Test.YtkibkpfjmdibcaaDoorRows
import GoSem.ClaimSeven
namespace Go.Proofs.YtkibkpfjmdibcaaDoor
namespace Rows

/-- THE TIED CARD OF 'limnerlaw02.WidthsOf'. -/
def widthsOfCard : Claim7 := { stood := { row := widthsOfRow, standIns := [], harness := (true, "67d376c3855387ed94cc9dfe33218df1c98e7f657711ffa85d336670a85d2ce9"), looks := false }, kinds := [], alts := [], laidByText := true, laidKinds := [.data, .widerDeep, .widerDeep, .pinned], laidTests := true, laidLooks := .later }
def WidthsOfCardSaid : Prop := Claim7.holds Tryd.pinned (.plain (OpenSpec.ofChange widthsOfSpec)) widthsOfCard

/-- THE TIED CARD OF 'limnerlaw02.WidthsText'. -/
def widthsTextCard : Claim7 := { stood := { row := widthsTextRow, standIns := [], harness := (true, "67d376c3855387ed94cc9dfe33218df1c98e7f657711ffa85d336670a85d2ce9"), looks := false }, kinds := [], alts := [], laidByText := true, laidKinds := [.data, .widerDeep, .widerDeep, .pinned], laidTests := true, laidLooks := .later }
def WidthsTextCardSaid : Prop := Claim7.holds Tryd.pinned (.plain (OpenSpec.ofChange widthsTextSpec)) widthsTextCard

/-- THE TIED CARD OF 'limnerlaw02.WidthsTab'. -/
def widthsTabCard : Claim7 := { stood := { row := widthsTabRow, standIns := [], harness := (true, "67d376c3855387ed94cc9dfe33218df1c98e7f657711ffa85d336670a85d2ce9"), looks := false }, kinds := [], alts := [], laidByText := true, laidKinds := [.data, .widerDeep, .widerDeep, .pinned], laidTests := true, laidLooks := .later }
def WidthsTabCardSaid : Prop := Claim7.holds Tryd.pinned (.plain (OpenSpec.ofChange widthsTabSpec)) widthsTabCard

/-- THE TIED CARD OF 'limnerlaw02.WidthsShown'. -/
def widthsShownCard : Claim7 := { stood := { row := widthsShownRow, standIns := [], harness := (true, "67d376c3855387ed94cc9dfe33218df1c98e7f657711ffa85d336670a85d2ce9"), looks := false }, kinds := [], alts := [], laidByText := true, laidKinds := [.data, .widerDeep, .widerDeep, .pinned], laidTests := true, laidLooks := .later }
def WidthsShownCardSaid : Prop := Claim7.holds Tryd.pinned (.plain (OpenSpec.ofChange widthsShownSpec)) widthsShownCard

/-- THE TIED CARD OF 'limnerlaw02.WidthsJoin'. -/
def widthsJoinCard : Claim7 := { stood := { row := widthsJoinRow, standIns := [], harness := (true, "67d376c3855387ed94cc9dfe33218df1c98e7f657711ffa85d336670a85d2ce9"), looks := false }, kinds := [], alts := [], laidByText := true, laidKinds := [.data, .widerDeep, .widerDeep, .pinned], laidTests := true, laidLooks := .later }
def WidthsJoinCardSaid : Prop := Claim7.holds Tryd.pinned (.plain (OpenSpec.ofChange widthsJoinSpec)) widthsJoinCard

/-- THE SECOND FORM's CARD OF 'limnerlaw02.WidthsOf'. -/
def widthsOfUptoCard : Claim7 := { stood := { row := widthsOfUptoRow, standIns := [], harness := (true, "67d376c3855387ed94cc9dfe33218df1c98e7f657711ffa85d336670a85d2ce9"), looks := false }, kinds := [], alts := [], laidByText := true, laidKinds := [.data, .widerDeep, .widerDeep, .pinned], laidTests := true, laidLooks := .later }
def WidthsOfUptoCardSaid : Prop := Claim7.holds Tryd.pinned (.plain (OpenSpec.upto widthsOfSpec)) widthsOfUptoCard

/-- THE SECOND FORM's CARD OF 'limnerlaw02.WidthsText'. -/
def widthsTextUptoCard : Claim7 := { stood := { row := widthsTextUptoRow, standIns := [], harness := (true, "67d376c3855387ed94cc9dfe33218df1c98e7f657711ffa85d336670a85d2ce9"), looks := false }, kinds := [], alts := [], laidByText := true, laidKinds := [.data, .widerDeep, .widerDeep, .pinned], laidTests := true, laidLooks := .later }
def WidthsTextUptoCardSaid : Prop := Claim7.holds Tryd.pinned (.plain (OpenSpec.upto widthsTextSpec)) widthsTextUptoCard

/-- THE SECOND FORM's CARD OF 'limnerlaw02.WidthsTab'. -/
def widthsTabUptoCard : Claim7 := { stood := { row := widthsTabUptoRow, standIns := [], harness := (true, "67d376c3855387ed94cc9dfe33218df1c98e7f657711ffa85d336670a85d2ce9"), looks := false }, kinds := [], alts := [], laidByText := true, laidKinds := [.data, .widerDeep, .widerDeep, .pinned], laidTests := true, laidLooks := .later }
def WidthsTabUptoCardSaid : Prop := Claim7.holds Tryd.pinned (.plain (OpenSpec.upto widthsTabSpec)) widthsTabUptoCard

/-- THE SECOND FORM's CARD OF 'limnerlaw02.WidthsShown'. -/
def widthsShownUptoCard : Claim7 := { stood := { row := widthsShownUptoRow, standIns := [], harness := (true, "67d376c3855387ed94cc9dfe33218df1c98e7f657711ffa85d336670a85d2ce9"), looks := false }, kinds := [], alts := [], laidByText := true, laidKinds := [.data, .widerDeep, .widerDeep, .pinned], laidTests := true, laidLooks := .later }
def WidthsShownUptoCardSaid : Prop := Claim7.holds Tryd.pinned (.plain (OpenSpec.upto widthsShownSpec)) widthsShownUptoCard

/-- THE SECOND FORM's CARD OF 'limnerlaw02.WidthsJoin'. -/
def widthsJoinUptoCard : Claim7 := { stood := { row := widthsJoinUptoRow, standIns := [], harness := (true, "67d376c3855387ed94cc9dfe33218df1c98e7f657711ffa85d336670a85d2ce9"), looks := false }, kinds := [], alts := [], laidByText := true, laidKinds := [.data, .widerDeep, .widerDeep, .pinned], laidTests := true, laidLooks := .later }
def WidthsJoinUptoCardSaid : Prop := Claim7.holds Tryd.pinned (.plain (OpenSpec.upto widthsJoinSpec)) widthsJoinUptoCard
end Rows
end Go.Proofs.YtkibkpfjmdibcaaDoor
