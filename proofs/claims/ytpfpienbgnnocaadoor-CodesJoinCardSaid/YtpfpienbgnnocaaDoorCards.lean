/-
  DERIVED. GIVEN WITH THE SEED: THE CARDS: each row of YtpfpienbgnnocaaDoorRows.lean that lists a variable, with what it lists TIED to the program's text (the seventh form; the later family's looks); each row that meets fmt, with fmt's text TOLD by the authors' own Lean function (tested against real Go, not proved from fmt's source: count such statements apart). THE CARD IS WHAT COUNTS. Prove the row's statement (the work); the ties are given (YtpfpienbgnnocaaDoorTie.lean); close each card by the builder's one call (the guide's Derived/Test/ToyasCard.lean, 'card_holds'). Laid BY PROGRAM, IN A SANDBOX (cutbox-door.mjs). By AI agents, Wed Nov 11 2026. No macro, syntax, notation, axiom, sorry.
-/
import Derived.Test.YtpfpienbgnnocaaDoorRows
import GoSem.ClaimSeven
namespace Go.Proofs.YtpfpienbgnnocaaDoor
namespace Rows

/-- THE TIED CARD OF 'limnerlaw01.CodesNext'. -/
def codesNextCard : Claim7 := { stood := { row := codesNextRow, standIns := [], harness := (true, "9fcf2323fc40fa43080653ff72fc0edf772b7334f5af9482aeacb1dbf60af741"), looks := false }, kinds := [], alts := [], laidByText := true, laidKinds := [.data, .pinned], laidTests := true, laidLooks := .later }
def CodesNextCardSaid : Prop := Claim7.holds Tryd.pinned (.plain (OpenSpec.ofChange codesNextSpec)) codesNextCard

/-- THE TIED CARD OF 'limnerlaw01.CodesList'. -/
def codesListCard : Claim7 := { stood := { row := codesListRow, standIns := [], harness := (true, "9fcf2323fc40fa43080653ff72fc0edf772b7334f5af9482aeacb1dbf60af741"), looks := false }, kinds := [], alts := [], laidByText := true, laidKinds := [.data, .pinned], laidTests := true, laidLooks := .later }
def CodesListCardSaid : Prop := Claim7.holds Tryd.pinned (.plain (OpenSpec.ofChange codesListSpec)) codesListCard

/-- THE TIED CARD OF 'limnerlaw01.CodesPut'. -/
def codesPutCard : Claim7 := { stood := { row := codesPutRow, standIns := [], harness := (true, "9fcf2323fc40fa43080653ff72fc0edf772b7334f5af9482aeacb1dbf60af741"), looks := false }, kinds := [], alts := [], laidByText := true, laidKinds := [.data, .pinned], laidTests := true, laidLooks := .later }
def CodesPutCardSaid : Prop := Claim7.holds Tryd.pinned (.plain (OpenSpec.ofChange codesPutSpec)) codesPutCard

/-- THE TIED CARD OF 'limnerlaw01.CodesBack'. -/
def codesBackCard : Claim7 := { stood := { row := codesBackRow, standIns := [], harness := (true, "9fcf2323fc40fa43080653ff72fc0edf772b7334f5af9482aeacb1dbf60af741"), looks := false }, kinds := [], alts := [], laidByText := true, laidKinds := [.data, .pinned], laidTests := true, laidLooks := .later }
def CodesBackCardSaid : Prop := Claim7.holds Tryd.pinned (.plain (OpenSpec.ofChange codesBackSpec)) codesBackCard

/-- THE TIED CARD OF 'limnerlaw01.CodesParts'. -/
def codesPartsCard : Claim7 := { stood := { row := codesPartsRow, standIns := [], harness := (true, "9fcf2323fc40fa43080653ff72fc0edf772b7334f5af9482aeacb1dbf60af741"), looks := false }, kinds := [], alts := [], laidByText := true, laidKinds := [.data, .pinned], laidTests := true, laidLooks := .later }
def CodesPartsCardSaid : Prop := Claim7.holds Tryd.pinned (.plain (OpenSpec.ofChange codesPartsSpec)) codesPartsCard

/-- THE TIED CARD OF 'limnerlaw01.CodesJoin'. -/
def codesJoinCard : Claim7 := { stood := { row := codesJoinRow, standIns := [], harness := (true, "9fcf2323fc40fa43080653ff72fc0edf772b7334f5af9482aeacb1dbf60af741"), looks := false }, kinds := [], alts := [], laidByText := true, laidKinds := [.data, .pinned], laidTests := true, laidLooks := .later }
def CodesJoinCardSaid : Prop := Claim7.holds Tryd.pinned (.plain (OpenSpec.ofChange codesJoinSpec)) codesJoinCard

/-- THE SECOND FORM's CARD OF 'limnerlaw01.CodesNext'. -/
def codesNextUptoCard : Claim7 := { stood := { row := codesNextUptoRow, standIns := [], harness := (true, "9fcf2323fc40fa43080653ff72fc0edf772b7334f5af9482aeacb1dbf60af741"), looks := false }, kinds := [], alts := [], laidByText := true, laidKinds := [.data, .pinned], laidTests := true, laidLooks := .later }
def CodesNextUptoCardSaid : Prop := Claim7.holds Tryd.pinned (.plain (OpenSpec.upto codesNextSpec)) codesNextUptoCard

/-- THE SECOND FORM's CARD OF 'limnerlaw01.CodesList'. -/
def codesListUptoCard : Claim7 := { stood := { row := codesListUptoRow, standIns := [], harness := (true, "9fcf2323fc40fa43080653ff72fc0edf772b7334f5af9482aeacb1dbf60af741"), looks := false }, kinds := [], alts := [], laidByText := true, laidKinds := [.data, .pinned], laidTests := true, laidLooks := .later }
def CodesListUptoCardSaid : Prop := Claim7.holds Tryd.pinned (.plain (OpenSpec.upto codesListSpec)) codesListUptoCard

/-- THE SECOND FORM's CARD OF 'limnerlaw01.CodesPut'. -/
def codesPutUptoCard : Claim7 := { stood := { row := codesPutUptoRow, standIns := [], harness := (true, "9fcf2323fc40fa43080653ff72fc0edf772b7334f5af9482aeacb1dbf60af741"), looks := false }, kinds := [], alts := [], laidByText := true, laidKinds := [.data, .pinned], laidTests := true, laidLooks := .later }
def CodesPutUptoCardSaid : Prop := Claim7.holds Tryd.pinned (.plain (OpenSpec.upto codesPutSpec)) codesPutUptoCard

/-- THE SECOND FORM's CARD OF 'limnerlaw01.CodesBack'. -/
def codesBackUptoCard : Claim7 := { stood := { row := codesBackUptoRow, standIns := [], harness := (true, "9fcf2323fc40fa43080653ff72fc0edf772b7334f5af9482aeacb1dbf60af741"), looks := false }, kinds := [], alts := [], laidByText := true, laidKinds := [.data, .pinned], laidTests := true, laidLooks := .later }
def CodesBackUptoCardSaid : Prop := Claim7.holds Tryd.pinned (.plain (OpenSpec.upto codesBackSpec)) codesBackUptoCard

/-- THE SECOND FORM's CARD OF 'limnerlaw01.CodesParts'. -/
def codesPartsUptoCard : Claim7 := { stood := { row := codesPartsUptoRow, standIns := [], harness := (true, "9fcf2323fc40fa43080653ff72fc0edf772b7334f5af9482aeacb1dbf60af741"), looks := false }, kinds := [], alts := [], laidByText := true, laidKinds := [.data, .pinned], laidTests := true, laidLooks := .later }
def CodesPartsUptoCardSaid : Prop := Claim7.holds Tryd.pinned (.plain (OpenSpec.upto codesPartsSpec)) codesPartsUptoCard

/-- THE SECOND FORM's CARD OF 'limnerlaw01.CodesJoin'. -/
def codesJoinUptoCard : Claim7 := { stood := { row := codesJoinUptoRow, standIns := [], harness := (true, "9fcf2323fc40fa43080653ff72fc0edf772b7334f5af9482aeacb1dbf60af741"), looks := false }, kinds := [], alts := [], laidByText := true, laidKinds := [.data, .pinned], laidTests := true, laidLooks := .later }
def CodesJoinUptoCardSaid : Prop := Claim7.holds Tryd.pinned (.plain (OpenSpec.upto codesJoinSpec)) codesJoinUptoCard
end Rows
end Go.Proofs.YtpfpienbgnnocaaDoor
