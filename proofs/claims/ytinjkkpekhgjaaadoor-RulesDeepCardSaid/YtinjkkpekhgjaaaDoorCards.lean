/-
  DERIVED. GIVEN WITH THE SEED: THE CARDS: each row of YtinjkkpekhgjaaaDoorRows.lean that lists a variable, with what it lists TIED to the program's text (the seventh form; the later family's looks); each row that meets fmt, with fmt's text TOLD by the authors' own Lean function (tested against real Go, not proved from fmt's source: count such statements apart). THE CARD IS WHAT COUNTS. Prove the row's statement (the work); the ties are given (YtinjkkpekhgjaaaDoorTie.lean); close each card by the builder's one call (the guide's Derived/Test/ToyasCard.lean, 'card_holds'). Laid BY PROGRAM, IN A SANDBOX (cutbox-door.mjs). By AI agents, Wed Nov 11 2026. No macro, syntax, notation, axiom, sorry.
-/
import Derived.Test.YtinjkkpekhgjaaaDoorRows
import GoSem.ClaimSeven
namespace Go.Proofs.YtinjkkpekhgjaaaDoor
namespace Rows

/-- THE TIED CARD OF 'limnerlaw13.RulesDeep'. -/
def rulesDeepCard : Claim7 := { stood := { row := rulesDeepRow, standIns := [], harness := (true, "60fc3fee1cede1cf019081faac63a1503db6d5a3ff8b97e22205332e9122d84e"), looks := true }, kinds := [], alts := [], laidByText := true, laidKinds := [.widerDeep], laidTests := true, laidLooks := .later }
def RulesDeepCardSaid : Prop := Claim7.holds Tryd.pinned (.plain (OpenSpec.ofChange rulesDeepSpec)) rulesDeepCard

/-- THE TIED CARD OF 'limnerlaw13.RulesKeep'. -/
def rulesKeepCard : Claim7 := { stood := { row := rulesKeepRow, standIns := [], harness := (true, "60fc3fee1cede1cf019081faac63a1503db6d5a3ff8b97e22205332e9122d84e"), looks := true }, kinds := [], alts := [], laidByText := true, laidKinds := [.mapped, .widerDeep], laidTests := true, laidLooks := .later }
def RulesKeepCardSaid : Prop := Claim7.holds Tryd.pinned (.plain (OpenSpec.ofChange rulesKeepSpec)) rulesKeepCard

/-- THE SECOND FORM's CARD OF 'limnerlaw13.RulesDeep'. -/
def rulesDeepUptoCard : Claim7 := { stood := { row := rulesDeepUptoRow, standIns := [], harness := (true, "60fc3fee1cede1cf019081faac63a1503db6d5a3ff8b97e22205332e9122d84e"), looks := true }, kinds := [], alts := [], laidByText := true, laidKinds := [.widerDeep], laidTests := true, laidLooks := .later }
def RulesDeepUptoCardSaid : Prop := Claim7.holds Tryd.pinned (.plain (OpenSpec.upto rulesDeepSpec)) rulesDeepUptoCard

/-- THE SECOND FORM's CARD OF 'limnerlaw13.RulesKeep'. -/
def rulesKeepUptoCard : Claim7 := { stood := { row := rulesKeepUptoRow, standIns := [], harness := (true, "60fc3fee1cede1cf019081faac63a1503db6d5a3ff8b97e22205332e9122d84e"), looks := true }, kinds := [], alts := [], laidByText := true, laidKinds := [.mapped, .widerDeep], laidTests := true, laidLooks := .later }
def RulesKeepUptoCardSaid : Prop := Claim7.holds Tryd.pinned (.plain (OpenSpec.upto rulesKeepSpec)) rulesKeepUptoCard
end Rows
end Go.Proofs.YtinjkkpekhgjaaaDoor
