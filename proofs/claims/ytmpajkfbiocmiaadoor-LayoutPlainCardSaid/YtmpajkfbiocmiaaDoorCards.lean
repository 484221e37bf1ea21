/-
  DERIVED. GIVEN WITH THE SEED: THE CARDS: each row of YtmpajkfbiocmiaaDoorRows.lean that lists a variable, with what it lists TIED to the program's text (the seventh form; the later family's looks); each row that meets fmt, with fmt's text TOLD by the authors' own Lean function (tested against real Go, not proved from fmt's source: count such statements apart). THE CARD IS WHAT COUNTS. Prove the row's statement (the work); the ties are given (YtmpajkfbiocmiaaDoorTie.lean); close each card by the builder's one call (the guide's Derived/Test/ToyasCard.lean, 'card_holds'). Laid BY PROGRAM, IN A SANDBOX (cutbox-door.mjs). By AI agents, Wed Nov 11 2026. No macro, syntax, notation, axiom, sorry.
-/
import Derived.Test.YtmpajkfbiocmiaaDoorRows
import GoSem.ClaimSeven
namespace Go.Proofs.YtmpajkfbiocmiaaDoor
namespace Rows

/-- THE TIED CARD OF 'limnerlaw25.LayoutValid'. -/
def layoutValidCard : Claim7 := { stood := { row := layoutValidRow, standIns := [], harness := (true, "9a213a2f576ebffa644fa170c117fcc9db37b2fab5ee5f88c6d89ff8cd2e4fe1"), looks := false }, kinds := [], alts := [], laidByText := true, laidKinds := [.data, .widerDeep, .widerDeep, .data, .data, .pinned], laidTests := true, laidLooks := .later }
def LayoutValidCardSaid : Prop := Claim7.holds Tryd.pinned (.plain (OpenSpec.ofChange layoutValidSpec)) layoutValidCard

/-- THE TIED CARD OF 'limnerlaw25.LayoutPlain'. -/
def layoutPlainCard : Claim7 := { stood := { row := layoutPlainRow, standIns := [], harness := (true, "9a213a2f576ebffa644fa170c117fcc9db37b2fab5ee5f88c6d89ff8cd2e4fe1"), looks := false }, kinds := [], alts := [], laidByText := true, laidKinds := [.data, .widerDeep, .widerDeep, .data, .data, .pinned], laidTests := true, laidLooks := .later }
def LayoutPlainCardSaid : Prop := Claim7.holds Tryd.pinned (.plain (OpenSpec.ofChange layoutPlainSpec)) layoutPlainCard

/-- THE SECOND FORM's CARD OF 'limnerlaw25.LayoutValid'. -/
def layoutValidUptoCard : Claim7 := { stood := { row := layoutValidUptoRow, standIns := [], harness := (true, "9a213a2f576ebffa644fa170c117fcc9db37b2fab5ee5f88c6d89ff8cd2e4fe1"), looks := false }, kinds := [], alts := [], laidByText := true, laidKinds := [.data, .widerDeep, .widerDeep, .data, .data, .pinned], laidTests := true, laidLooks := .later }
def LayoutValidUptoCardSaid : Prop := Claim7.holds Tryd.pinned (.plain (OpenSpec.upto layoutValidSpec)) layoutValidUptoCard

/-- THE SECOND FORM's CARD OF 'limnerlaw25.LayoutPlain'. -/
def layoutPlainUptoCard : Claim7 := { stood := { row := layoutPlainUptoRow, standIns := [], harness := (true, "9a213a2f576ebffa644fa170c117fcc9db37b2fab5ee5f88c6d89ff8cd2e4fe1"), looks := false }, kinds := [], alts := [], laidByText := true, laidKinds := [.data, .widerDeep, .widerDeep, .data, .data, .pinned], laidTests := true, laidLooks := .later }
def LayoutPlainUptoCardSaid : Prop := Claim7.holds Tryd.pinned (.plain (OpenSpec.upto layoutPlainSpec)) layoutPlainUptoCard
end Rows
end Go.Proofs.YtmpajkfbiocmiaaDoor
