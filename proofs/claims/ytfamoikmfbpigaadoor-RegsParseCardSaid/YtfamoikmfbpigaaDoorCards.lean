/-
  DERIVED. GIVEN WITH THE SEED: THE CARDS: each row of YtfamoikmfbpigaaDoorRows.lean that lists a variable, with what it lists TIED to the program's text (the seventh form; the later family's looks); each row that meets fmt, with fmt's text TOLD by the authors' own Lean function (tested against real Go, not proved from fmt's source: count such statements apart). THE CARD IS WHAT COUNTS. Prove the row's statement (the work); the ties are given (YtfamoikmfbpigaaDoorTie.lean); close each card by the builder's one call (the guide's Derived/Test/ToyasCard.lean, 'card_holds'). Laid BY PROGRAM, IN A SANDBOX (cutbox-door.mjs). By AI agents, Wed Nov 11 2026. No macro, syntax, notation, axiom, sorry.
-/
import Derived.Test.YtfamoikmfbpigaaDoorRows
import GoSem.ClaimSeven
namespace Go.Proofs.YtfamoikmfbpigaaDoor
namespace Rows

/-- THE TIED CARD OF 'limnerlaw10.RegsParse'. -/
def regsParseCard : Claim7 := { stood := { row := regsParseRow, standIns := [], harness := (true, "47ed04f6e39d2a081a273427e046dcbc295ae5b90254f87581f068d192f47f3f"), looks := true }, kinds := [], alts := [], laidByText := true, laidKinds := [.mapped], laidTests := true, laidLooks := .later }
def RegsParseCardSaid : Prop := Claim7.holds Tryd.pinned (.plain (OpenSpec.ofChange regsParseSpec)) regsParseCard

/-- THE TIED CARD OF 'limnerlaw10.RegsSet'. -/
def regsSetCard : Claim7 := { stood := { row := regsSetRow, standIns := [], harness := (true, "47ed04f6e39d2a081a273427e046dcbc295ae5b90254f87581f068d192f47f3f"), looks := true }, kinds := [], alts := [], laidByText := true, laidKinds := [.mapped], laidTests := true, laidLooks := .later }
def RegsSetCardSaid : Prop := Claim7.holds Tryd.pinned (.plain (OpenSpec.ofChange regsSetSpec)) regsSetCard

/-- THE TIED CARD OF 'limnerlaw10.RegsShow'. -/
def regsShowCard : Claim7 := { stood := { row := regsShowRow, standIns := [], harness := (true, "47ed04f6e39d2a081a273427e046dcbc295ae5b90254f87581f068d192f47f3f"), looks := true }, kinds := [], alts := [], laidByText := true, laidKinds := [.mapped], laidTests := true, laidLooks := .later }
def RegsShowCardSaid : Prop := Claim7.holds Tryd.pinned (.plain (OpenSpec.ofChange regsShowSpec)) regsShowCard

/-- THE TIED CARD OF 'limnerlaw10.RegsBack'. -/
def regsBackCard : Claim7 := { stood := { row := regsBackRow, standIns := [], harness := (true, "47ed04f6e39d2a081a273427e046dcbc295ae5b90254f87581f068d192f47f3f"), looks := true }, kinds := [], alts := [], laidByText := true, laidKinds := [.mapped], laidTests := true, laidLooks := .later }
def RegsBackCardSaid : Prop := Claim7.holds Tryd.pinned (.plain (OpenSpec.ofChange regsBackSpec)) regsBackCard

/-- THE TIED CARD OF 'limnerlaw10.RegsNode'. -/
def regsNodeCard : Claim7 := { stood := { row := regsNodeRow, standIns := [], harness := (true, "47ed04f6e39d2a081a273427e046dcbc295ae5b90254f87581f068d192f47f3f"), looks := true }, kinds := [], alts := [], laidByText := true, laidKinds := [.mapped], laidTests := true, laidLooks := .later }
def RegsNodeCardSaid : Prop := Claim7.holds Tryd.pinned (.plain (OpenSpec.ofChange regsNodeSpec)) regsNodeCard

/-- THE TIED CARD OF 'limnerlaw13.RulesKeep'. -/
def rulesKeepCard : Claim7 := { stood := { row := rulesKeepRow, standIns := [], harness := (true, "47ed04f6e39d2a081a273427e046dcbc295ae5b90254f87581f068d192f47f3f"), looks := true }, kinds := [], alts := [], laidByText := true, laidKinds := [.mapped, .widerDeep], laidTests := true, laidLooks := .later }
def RulesKeepCardSaid : Prop := Claim7.holds Tryd.pinned (.plain (OpenSpec.ofChange rulesKeepSpec)) rulesKeepCard

/-- THE SECOND FORM's CARD OF 'limnerlaw10.RegsParse'. -/
def regsParseUptoCard : Claim7 := { stood := { row := regsParseUptoRow, standIns := [], harness := (true, "47ed04f6e39d2a081a273427e046dcbc295ae5b90254f87581f068d192f47f3f"), looks := true }, kinds := [], alts := [], laidByText := true, laidKinds := [.mapped], laidTests := true, laidLooks := .later }
def RegsParseUptoCardSaid : Prop := Claim7.holds Tryd.pinned (.plain (OpenSpec.upto regsParseSpec)) regsParseUptoCard

/-- THE SECOND FORM's CARD OF 'limnerlaw10.RegsSet'. -/
def regsSetUptoCard : Claim7 := { stood := { row := regsSetUptoRow, standIns := [], harness := (true, "47ed04f6e39d2a081a273427e046dcbc295ae5b90254f87581f068d192f47f3f"), looks := true }, kinds := [], alts := [], laidByText := true, laidKinds := [.mapped], laidTests := true, laidLooks := .later }
def RegsSetUptoCardSaid : Prop := Claim7.holds Tryd.pinned (.plain (OpenSpec.upto regsSetSpec)) regsSetUptoCard

/-- THE SECOND FORM's CARD OF 'limnerlaw10.RegsShow'. -/
def regsShowUptoCard : Claim7 := { stood := { row := regsShowUptoRow, standIns := [], harness := (true, "47ed04f6e39d2a081a273427e046dcbc295ae5b90254f87581f068d192f47f3f"), looks := true }, kinds := [], alts := [], laidByText := true, laidKinds := [.mapped], laidTests := true, laidLooks := .later }
def RegsShowUptoCardSaid : Prop := Claim7.holds Tryd.pinned (.plain (OpenSpec.upto regsShowSpec)) regsShowUptoCard

/-- THE SECOND FORM's CARD OF 'limnerlaw10.RegsBack'. -/
def regsBackUptoCard : Claim7 := { stood := { row := regsBackUptoRow, standIns := [], harness := (true, "47ed04f6e39d2a081a273427e046dcbc295ae5b90254f87581f068d192f47f3f"), looks := true }, kinds := [], alts := [], laidByText := true, laidKinds := [.mapped], laidTests := true, laidLooks := .later }
def RegsBackUptoCardSaid : Prop := Claim7.holds Tryd.pinned (.plain (OpenSpec.upto regsBackSpec)) regsBackUptoCard

/-- THE SECOND FORM's CARD OF 'limnerlaw10.RegsNode'. -/
def regsNodeUptoCard : Claim7 := { stood := { row := regsNodeUptoRow, standIns := [], harness := (true, "47ed04f6e39d2a081a273427e046dcbc295ae5b90254f87581f068d192f47f3f"), looks := true }, kinds := [], alts := [], laidByText := true, laidKinds := [.mapped], laidTests := true, laidLooks := .later }
def RegsNodeUptoCardSaid : Prop := Claim7.holds Tryd.pinned (.plain (OpenSpec.upto regsNodeSpec)) regsNodeUptoCard

/-- THE SECOND FORM's CARD OF 'limnerlaw13.RulesKeep'. -/
def rulesKeepUptoCard : Claim7 := { stood := { row := rulesKeepUptoRow, standIns := [], harness := (true, "47ed04f6e39d2a081a273427e046dcbc295ae5b90254f87581f068d192f47f3f"), looks := true }, kinds := [], alts := [], laidByText := true, laidKinds := [.mapped, .widerDeep], laidTests := true, laidLooks := .later }
def RulesKeepUptoCardSaid : Prop := Claim7.holds Tryd.pinned (.plain (OpenSpec.upto rulesKeepSpec)) rulesKeepUptoCard
end Rows
end Go.Proofs.YtfamoikmfbpigaaDoor
