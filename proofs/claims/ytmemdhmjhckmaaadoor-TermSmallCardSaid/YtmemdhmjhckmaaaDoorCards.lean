/-
  DERIVED. GIVEN WITH THE SEED: THE CARDS: each row of YtmemdhmjhckmaaaDoorRows.lean that lists a variable, with what it lists TIED to the program's text (the seventh form; the later family's looks); each row that meets fmt, with fmt's text TOLD by the authors' own Lean function (tested against real Go, not proved from fmt's source: count such statements apart). THE CARD IS WHAT COUNTS. Prove the row's statement (the work); the ties are given (YtmemdhmjhckmaaaDoorTie.lean); close each card by the builder's one call (the guide's Derived/Test/ToyasCard.lean, 'card_holds'). Laid BY PROGRAM, IN A SANDBOX (cutbox-door.mjs). By AI agents, Wed Nov 11 2026. No macro, syntax, notation, axiom, sorry.
-/
import Derived.Test.YtmemdhmjhckmaaaDoorRows
import GoSem.ClaimSeven
namespace Go.Proofs.YtmemdhmjhckmaaaDoor
namespace Rows

/-- THE TIED CARD OF 'limnerlaw08.TermSmall'. -/
def termSmallCard : Claim7 := { stood := { row := termSmallRow, standIns := [], harness := (true, "d240c240ab43dc6ed74e3e86238c98ac7b1497145711b4f2ffd54a42f23ead40"), looks := false }, kinds := [], alts := [], laidByText := true, laidKinds := [.data, .widerDeep, .widerDeep, .data, .data, .pinned], laidTests := true, laidLooks := .later }
def TermSmallCardSaid : Prop := Claim7.holds Tryd.pinned (.plain (OpenSpec.ofChange termSmallSpec)) termSmallCard

/-- THE TIED CARD OF 'limnerlaw08.TermText'. -/
def termTextCard : Claim7 := { stood := { row := termTextRow, standIns := [], harness := (true, "d240c240ab43dc6ed74e3e86238c98ac7b1497145711b4f2ffd54a42f23ead40"), looks := false }, kinds := [], alts := [], laidByText := true, laidKinds := [.data, .widerDeep, .widerDeep, .data, .data, .pinned], laidTests := true, laidLooks := .later }
def TermTextCardSaid : Prop := Claim7.holds Tryd.pinned (.plain (OpenSpec.ofChange termTextSpec)) termTextCard

/-- THE TIED CARD OF 'limnerlaw08.TermClear'. -/
def termClearCard : Claim7 := { stood := { row := termClearRow, standIns := [], harness := (true, "d240c240ab43dc6ed74e3e86238c98ac7b1497145711b4f2ffd54a42f23ead40"), looks := false }, kinds := [], alts := [], laidByText := true, laidKinds := [.data, .widerDeep, .widerDeep, .data, .data, .pinned], laidTests := true, laidLooks := .later }
def TermClearCardSaid : Prop := Claim7.holds Tryd.pinned (.plain (OpenSpec.ofChange termClearSpec)) termClearCard

/-- THE TIED CARD OF 'limnerlaw08.TermNone'. -/
def termNoneCard : Claim7 := { stood := { row := termNoneRow, standIns := [], harness := (true, "d240c240ab43dc6ed74e3e86238c98ac7b1497145711b4f2ffd54a42f23ead40"), looks := false }, kinds := [], alts := [], laidByText := true, laidKinds := [.data, .widerDeep, .widerDeep, .data, .data, .pinned], laidTests := true, laidLooks := .later }
def TermNoneCardSaid : Prop := Claim7.holds Tryd.pinned (.plain (OpenSpec.ofChange termNoneSpec)) termNoneCard

/-- THE TIED CARD OF 'limnerlaw08.TermValid'. -/
def termValidCard : Claim7 := { stood := { row := termValidRow, standIns := [], harness := (true, "d240c240ab43dc6ed74e3e86238c98ac7b1497145711b4f2ffd54a42f23ead40"), looks := false }, kinds := [], alts := [], laidByText := true, laidKinds := [.data, .widerDeep, .widerDeep, .data, .data, .pinned], laidTests := true, laidLooks := .later }
def TermValidCardSaid : Prop := Claim7.holds Tryd.pinned (.plain (OpenSpec.ofChange termValidSpec)) termValidCard

/-- THE SECOND FORM's CARD OF 'limnerlaw08.TermSmall'. -/
def termSmallUptoCard : Claim7 := { stood := { row := termSmallUptoRow, standIns := [], harness := (true, "d240c240ab43dc6ed74e3e86238c98ac7b1497145711b4f2ffd54a42f23ead40"), looks := false }, kinds := [], alts := [], laidByText := true, laidKinds := [.data, .widerDeep, .widerDeep, .data, .data, .pinned], laidTests := true, laidLooks := .later }
def TermSmallUptoCardSaid : Prop := Claim7.holds Tryd.pinned (.plain (OpenSpec.upto termSmallSpec)) termSmallUptoCard

/-- THE SECOND FORM's CARD OF 'limnerlaw08.TermText'. -/
def termTextUptoCard : Claim7 := { stood := { row := termTextUptoRow, standIns := [], harness := (true, "d240c240ab43dc6ed74e3e86238c98ac7b1497145711b4f2ffd54a42f23ead40"), looks := false }, kinds := [], alts := [], laidByText := true, laidKinds := [.data, .widerDeep, .widerDeep, .data, .data, .pinned], laidTests := true, laidLooks := .later }
def TermTextUptoCardSaid : Prop := Claim7.holds Tryd.pinned (.plain (OpenSpec.upto termTextSpec)) termTextUptoCard

/-- THE SECOND FORM's CARD OF 'limnerlaw08.TermClear'. -/
def termClearUptoCard : Claim7 := { stood := { row := termClearUptoRow, standIns := [], harness := (true, "d240c240ab43dc6ed74e3e86238c98ac7b1497145711b4f2ffd54a42f23ead40"), looks := false }, kinds := [], alts := [], laidByText := true, laidKinds := [.data, .widerDeep, .widerDeep, .data, .data, .pinned], laidTests := true, laidLooks := .later }
def TermClearUptoCardSaid : Prop := Claim7.holds Tryd.pinned (.plain (OpenSpec.upto termClearSpec)) termClearUptoCard

/-- THE SECOND FORM's CARD OF 'limnerlaw08.TermNone'. -/
def termNoneUptoCard : Claim7 := { stood := { row := termNoneUptoRow, standIns := [], harness := (true, "d240c240ab43dc6ed74e3e86238c98ac7b1497145711b4f2ffd54a42f23ead40"), looks := false }, kinds := [], alts := [], laidByText := true, laidKinds := [.data, .widerDeep, .widerDeep, .data, .data, .pinned], laidTests := true, laidLooks := .later }
def TermNoneUptoCardSaid : Prop := Claim7.holds Tryd.pinned (.plain (OpenSpec.upto termNoneSpec)) termNoneUptoCard

/-- THE SECOND FORM's CARD OF 'limnerlaw08.TermValid'. -/
def termValidUptoCard : Claim7 := { stood := { row := termValidUptoRow, standIns := [], harness := (true, "d240c240ab43dc6ed74e3e86238c98ac7b1497145711b4f2ffd54a42f23ead40"), looks := false }, kinds := [], alts := [], laidByText := true, laidKinds := [.data, .widerDeep, .widerDeep, .data, .data, .pinned], laidTests := true, laidLooks := .later }
def TermValidUptoCardSaid : Prop := Claim7.holds Tryd.pinned (.plain (OpenSpec.upto termValidSpec)) termValidUptoCard
end Rows
end Go.Proofs.YtmemdhmjhckmaaaDoor
