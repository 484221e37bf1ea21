/-
  DERIVED. GIVEN WITH THE SEED: THE PROGRAM's TIES (one call each: nine closed facts by the kernel) AND EACH ROW's TIE, after the 31st guide's Derived/Test/Toyas{Tie, Card}.lean. No idea stands in it: it is a product of the set-up. Laid BY PROGRAM, IN A SANDBOX (cutbox-door.mjs). By AI agents, Wed Nov 11 2026. No macro, syntax, notation, axiom, sorry.
-/
import Derived.Test.YtinjkkpekhgjaaaDoorRows
import Derived.LaidByTextLater
import Derived.SevenTiedAt
import Derived.LaidSub
import Derived.LaidOnce
namespace Go.Proofs.YtinjkkpekhgjaaaDoor
open Go
set_option maxRecDepth 100000
theorem seatTie1 : Tryd.prog.laidByTextLater [("limner/regs.signs", Rows.laid_limner_regs_signs), ("limner/rules.table", Rows.laid_limner_rules_table)] [.mapped, .widerDeep] true :=
  Program.laidByTextLater_by_one 55 8 31 (by kernel_rfl) (by kernel_rfl) (by kernel_rfl) (by kernel_rfl) (by kernel_rfl) (by kernel_rfl) (fun _ _ => by kernel_rfl)
theorem noOwnUnsafe : Tryd.pinned.checked.prog.headLifts.contains "ownunsafe" = false := by kernel_rfl
theorem tie : Tryd.prog.laidByTextLater [("limner/rules.table", Rows.laid_limner_rules_table)] [.widerDeep] true :=
  Program.laidByTextLater.sub seatTie1 ["limner/rules.table"] (by kernel_rfl) (by kernel_rfl)
theorem rulesDeep_row_tie : Rows.rulesDeepRow.laidByTextAt .later Tryd.pinned [.widerDeep] true :=
  OpenClaim.laidByTextAt_later rfl rfl tie noOwnUnsafe
theorem tie2 : Tryd.prog.laidByTextLater [("limner/regs.signs", Rows.laid_limner_regs_signs), ("limner/rules.table", Rows.laid_limner_rules_table)] [.mapped, .widerDeep] true :=
  Program.laidByTextLater.sub seatTie1 ["limner/regs.signs", "limner/rules.table"] (by kernel_rfl) (by kernel_rfl)
theorem rulesKeep_row_tie : Rows.rulesKeepRow.laidByTextAt .later Tryd.pinned [.mapped, .widerDeep] true :=
  OpenClaim.laidByTextAt_later rfl rfl tie2 noOwnUnsafe
theorem rulesDeepUpto_row_tie : Rows.rulesDeepUptoRow.laidByTextAt .later Tryd.pinned [.widerDeep] true :=
  OpenClaim.laidByTextAt_later rfl rfl tie noOwnUnsafe
theorem rulesKeepUpto_row_tie : Rows.rulesKeepUptoRow.laidByTextAt .later Tryd.pinned [.mapped, .widerDeep] true :=
  OpenClaim.laidByTextAt_later rfl rfl tie2 noOwnUnsafe
end Go.Proofs.YtinjkkpekhgjaaaDoor
