/-
  DERIVED. GIVEN WITH THE SEED: THE CARDS: each row of YtkmcfcpockpadaaDoorRows.lean that lists a variable, with what it lists TIED to the program's text (the seventh form; the later family's looks); each row that meets fmt, with fmt's text TOLD by the authors' own Lean function (tested against real Go, not proved from fmt's source: count such statements apart). THE CARD IS WHAT COUNTS. Prove the row's statement (the work); the ties are given (YtkmcfcpockpadaaDoorTie.lean); close each card by the builder's one call (the guide's Derived/Test/ToyasCard.lean, 'card_holds'). Laid BY PROGRAM, IN A SANDBOX (cutbox-door.mjs). By AI agents, Wed Nov 11 2026. No macro, syntax, notation, axiom, sorry.
-/
import Derived.Test.YtkmcfcpockpadaaDoorRows
import GoSem.ClaimSeven
namespace Go.Proofs.YtkmcfcpockpadaaDoor
namespace Rows

/-- THE TIED CARD OF 'limnerlaw18.MotionsTell'. -/
def motionsTellCard : Claim7 := { stood := { row := motionsTellRow, standIns := [], harness := (true, "b4c76992cecc55f8f8d53c9d9a7fe71c231e8a5d5818c0a544c8f85d07d3bde2"), looks := false }, kinds := [], alts := [], laidByText := true, laidKinds := [.data, .pinned], laidTests := true, laidLooks := .later }
def MotionsTellCardSaid : Prop := Claim7.holds Tryd.pinned (.plain (OpenSpec.ofChange motionsTellSpec)) motionsTellCard

/-- THE TIED CARD OF 'limnerlaw18.MotionsPlace'. -/
def motionsPlaceCard : Claim7 := { stood := { row := motionsPlaceRow, standIns := [], harness := (true, "b4c76992cecc55f8f8d53c9d9a7fe71c231e8a5d5818c0a544c8f85d07d3bde2"), looks := false }, kinds := [], alts := [], laidByText := true, laidKinds := [.data, .pinned], laidTests := true, laidLooks := .later }
def MotionsPlaceCardSaid : Prop := Claim7.holds Tryd.pinned (.plain (OpenSpec.ofChange motionsPlaceSpec)) motionsPlaceCard

/-- THE TIED CARD OF 'limnerlaw18.MotionsBack'. -/
def motionsBackCard : Claim7 := { stood := { row := motionsBackRow, standIns := [], harness := (true, "b4c76992cecc55f8f8d53c9d9a7fe71c231e8a5d5818c0a544c8f85d07d3bde2"), looks := false }, kinds := [], alts := [], laidByText := true, laidKinds := [.data, .pinned], laidTests := true, laidLooks := .later }
def MotionsBackCardSaid : Prop := Claim7.holds Tryd.pinned (.plain (OpenSpec.ofChange motionsBackSpec)) motionsBackCard

/-- THE SECOND FORM's CARD OF 'limnerlaw18.MotionsTell'. -/
def motionsTellUptoCard : Claim7 := { stood := { row := motionsTellUptoRow, standIns := [], harness := (true, "b4c76992cecc55f8f8d53c9d9a7fe71c231e8a5d5818c0a544c8f85d07d3bde2"), looks := false }, kinds := [], alts := [], laidByText := true, laidKinds := [.data, .pinned], laidTests := true, laidLooks := .later }
def MotionsTellUptoCardSaid : Prop := Claim7.holds Tryd.pinned (.plain (OpenSpec.upto motionsTellSpec)) motionsTellUptoCard

/-- THE SECOND FORM's CARD OF 'limnerlaw18.MotionsPlace'. -/
def motionsPlaceUptoCard : Claim7 := { stood := { row := motionsPlaceUptoRow, standIns := [], harness := (true, "b4c76992cecc55f8f8d53c9d9a7fe71c231e8a5d5818c0a544c8f85d07d3bde2"), looks := false }, kinds := [], alts := [], laidByText := true, laidKinds := [.data, .pinned], laidTests := true, laidLooks := .later }
def MotionsPlaceUptoCardSaid : Prop := Claim7.holds Tryd.pinned (.plain (OpenSpec.upto motionsPlaceSpec)) motionsPlaceUptoCard

/-- THE SECOND FORM's CARD OF 'limnerlaw18.MotionsBack'. -/
def motionsBackUptoCard : Claim7 := { stood := { row := motionsBackUptoRow, standIns := [], harness := (true, "b4c76992cecc55f8f8d53c9d9a7fe71c231e8a5d5818c0a544c8f85d07d3bde2"), looks := false }, kinds := [], alts := [], laidByText := true, laidKinds := [.data, .pinned], laidTests := true, laidLooks := .later }
def MotionsBackUptoCardSaid : Prop := Claim7.holds Tryd.pinned (.plain (OpenSpec.upto motionsBackSpec)) motionsBackUptoCard
end Rows
end Go.Proofs.YtkmcfcpockpadaaDoor
