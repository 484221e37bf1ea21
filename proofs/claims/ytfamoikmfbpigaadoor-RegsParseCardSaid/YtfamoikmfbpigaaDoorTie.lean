/-
  DERIVED. GIVEN WITH THE SEED: THE PROGRAM's TIES (one call each: nine closed facts by the kernel) AND EACH ROW's TIE, after the 31st guide's Derived/Test/Toyas{Tie, Card}.lean. No idea stands in it: it is a product of the set-up. Laid BY PROGRAM, IN A SANDBOX (cutbox-door.mjs). By AI agents, Wed Nov 11 2026. No macro, syntax, notation, axiom, sorry.
-/
import Derived.Test.YtfamoikmfbpigaaDoorRows
import Derived.LaidByTextLater
import Derived.SevenTiedAt
import Derived.LaidSub
import Derived.LaidOnce
namespace Go.Proofs.YtfamoikmfbpigaaDoor
open Go
set_option maxRecDepth 100000
theorem seatTie1 : Tryd.prog.laidByTextLater [("limner/regs.signs", Rows.laid_limner_regs_signs), ("limner/rules.table", Rows.laid_limner_rules_table)] [.mapped, .widerDeep] true :=
  Program.laidByTextLater_by_one 55 8 31 (by kernel_rfl) (by kernel_rfl) (by kernel_rfl) (by kernel_rfl) (by kernel_rfl) (by kernel_rfl) (fun _ _ => by kernel_rfl)
theorem noOwnUnsafe : Tryd.pinned.checked.prog.headLifts.contains "ownunsafe" = false := by kernel_rfl
theorem tie : Tryd.prog.laidByTextLater [("limner/regs.signs", Rows.laid_limner_regs_signs)] [.mapped] true :=
  Program.laidByTextLater.sub seatTie1 ["limner/regs.signs"] (by kernel_rfl) (by kernel_rfl)
theorem regsParse_row_tie : Rows.regsParseRow.laidByTextAt .later Tryd.pinned [.mapped] true :=
  OpenClaim.laidByTextAt_later rfl rfl tie noOwnUnsafe
theorem regsSet_row_tie : Rows.regsSetRow.laidByTextAt .later Tryd.pinned [.mapped] true :=
  OpenClaim.laidByTextAt_later rfl rfl tie noOwnUnsafe
theorem regsShow_row_tie : Rows.regsShowRow.laidByTextAt .later Tryd.pinned [.mapped] true :=
  OpenClaim.laidByTextAt_later rfl rfl tie noOwnUnsafe
theorem regsBack_row_tie : Rows.regsBackRow.laidByTextAt .later Tryd.pinned [.mapped] true :=
  OpenClaim.laidByTextAt_later rfl rfl tie noOwnUnsafe
theorem regsNode_row_tie : Rows.regsNodeRow.laidByTextAt .later Tryd.pinned [.mapped] true :=
  OpenClaim.laidByTextAt_later rfl rfl tie noOwnUnsafe
theorem tie2 : Tryd.prog.laidByTextLater [("limner/regs.signs", Rows.laid_limner_regs_signs), ("limner/rules.table", Rows.laid_limner_rules_table)] [.mapped, .widerDeep] true :=
  Program.laidByTextLater.sub seatTie1 ["limner/regs.signs", "limner/rules.table"] (by kernel_rfl) (by kernel_rfl)
theorem rulesKeep_row_tie : Rows.rulesKeepRow.laidByTextAt .later Tryd.pinned [.mapped, .widerDeep] true :=
  OpenClaim.laidByTextAt_later rfl rfl tie2 noOwnUnsafe
theorem regsParseUpto_row_tie : Rows.regsParseUptoRow.laidByTextAt .later Tryd.pinned [.mapped] true :=
  OpenClaim.laidByTextAt_later rfl rfl tie noOwnUnsafe
theorem regsSetUpto_row_tie : Rows.regsSetUptoRow.laidByTextAt .later Tryd.pinned [.mapped] true :=
  OpenClaim.laidByTextAt_later rfl rfl tie noOwnUnsafe
theorem regsShowUpto_row_tie : Rows.regsShowUptoRow.laidByTextAt .later Tryd.pinned [.mapped] true :=
  OpenClaim.laidByTextAt_later rfl rfl tie noOwnUnsafe
theorem regsBackUpto_row_tie : Rows.regsBackUptoRow.laidByTextAt .later Tryd.pinned [.mapped] true :=
  OpenClaim.laidByTextAt_later rfl rfl tie noOwnUnsafe
theorem regsNodeUpto_row_tie : Rows.regsNodeUptoRow.laidByTextAt .later Tryd.pinned [.mapped] true :=
  OpenClaim.laidByTextAt_later rfl rfl tie noOwnUnsafe
theorem rulesKeepUpto_row_tie : Rows.rulesKeepUptoRow.laidByTextAt .later Tryd.pinned [.mapped, .widerDeep] true :=
  OpenClaim.laidByTextAt_later rfl rfl tie2 noOwnUnsafe
end Go.Proofs.YtfamoikmfbpigaaDoor
