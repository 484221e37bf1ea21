/- RulesKeep: for every slice of bytes the law answers true, and its argument reads as before; the table and the map that the row lists are tied to the program's text; the library's own variable holds some number by the world's shape. No conditions. -/
import Derived.Test.YtfamoikmfbpigaaDoorRdoor
import Derived.Test.YtfamoikmfbpigaaDoorEdoor
import Derived.Test.YtfamoikmfbpigaaDoorRkeep
import Derived.Test.YtfamoikmfbpigaaDoorOpenrow
import Derived.OpenShut
namespace Go.Proofs.YtfamoikmfbpigaaDoor
open Go.ChangeShapes Go.WideShapes Go.ChangeAt Go.RowKit Go.Lib

def laidK : List (String × DataW Unit) := [("limner/regs.signs", Rows.laid_limner_regs_signs), ("limner/rules.table", Rows.laid_limner_rules_table)]
theorem cellsKU : Tryd.prog.cellsOf 5 = 1 := by kernel_rfl
set_option maxRecDepth 100000 in
theorem open_bytesK {H : Type} {enc : TypeId × Value → H} {w : World} {v : Value} {d : DataW H} {p : List MemPlace} {b0 : Nat} (hv : Value.okWide Tryd.prog w .any b0 47 v) (h : DataW.Trod enc Tryd.prog w 0 (fun _ => true) true 47 v d p) :
    ∃ A cap l, v = .slice A l.length cap ∧ l.length ≤ cap ∧ cap ≤ maxLen ∧ RowOf w 1 byK A l ∧ ∀ x ∈ l, 0 ≤ x ∧ x ≤ 255 := by
  obtain ⟨A, cap, l, rfl, h1, h2, h3, _, h4⟩ := open_rows (P := Tryd.prog) (α := Int) 1 (by omega) byK (fun x => 0 ≤ x ∧ x ≤ 255) Tryd.underlying47 cellsKU (fun n cs x hl hf => by
    match cs, hl with
    | [c0], _ =>
      obtain ⟨a, e0, _, m0⟩ := DataW.trod_int Tryd.underlying5 hf
      simp only [List.cons.injEq, and_true] at e0
      exact ⟨a, by simp [byK, e0], wfB m0⟩) hv h
  exact ⟨A, cap, l, rfl, h1, h2, h4, h3⟩
theorem door_metK (os : Os) (args : Array Value) : laidMetH Tryd.prog laidK ((World.doorLaid Tryd.prog 400 os).forCall (fun _ _ => 0) ⟨#[], args, []⟩).memory :=
  laidMetH_of_parts3 (fuel := 8) (laidMet_of_run' 8 (by kernel_rfl) (by kernel_rfl)) (by kernel_rfl) (by kernel_rfl)
set_option maxRecDepth 100000 in
theorem rulesKeep_contract (H : Type) (enc : TypeId × Value → H) (W : World) (base : Nat) (args : Array Value) (ds gs : List (DataW H)) (before : List MemPlace)
    (hval : ∀ (j : Nat) t v, Tryd.f8.params[j]? = some t → args[j]? = some v → Value.okWide Tryd.prog W .any base t v)
    (hW : DataW.Whole enc Tryd.prog Tryd.f8.params.toList Rows.rulesKeepSpec.vars false W args.toList ds gs before)
    (hsz : (DataW.weightsEach Tryd.prog (Tryd.f8.params.toList ++ Rows.rulesKeepSpec.plain.varTypes Tryd.prog) (ds ++ gs)).all (· ≤ reachBytes) = true) (hL : laidMetH Tryd.prog laidK W) (hsh : W.ShapedOpen Tryd.prog) :
    Calls Tryd.prog 8 args W fun e W' => ∃ v, e = .returned v ∧ Rows.rulesKeepSpec.post enc Tryd.prog Tryd.f8 false true false false W args v W' := by
  have hL2 := hL
  rw [MakeChecks.laidMetH_plain _ _ _ (by kernel_rfl)] at hL2
  have hT := rtab_of_met hL2 (by simp [laidK])
  obtain ⟨r, hS⟩ := sgr_of_laid hL2 (by simp [laidK])
  have hpost := fun W' hb => law_post (enc := enc) (f := Tryd.f8) (s := Rows.rulesKeepSpec) (tb := 4) (W := W) (W' := W') (args := args) (ds := ds) (gs := gs) (before := before) rfl
    (fun ds h => by match ds, h with | [_], _ => rfl) rfl Tryd.underlying4 (by intro t ht; simp [Tryd.params8] at ht; subst ht; exact ⟨by kernel_rfl, of_decide_eq_true (by kernel_rfl)⟩) hW hb
  obtain ⟨p, q, hA, hV, e, _, _⟩ := hW
  obtain ⟨rfl, rfl⟩ := trodVars_none hV
  simp only [List.append_nil] at e
  subst e
  rw [Tryd.params8] at hA hval
  obtain ⟨v0, d0, rfl, rfl, h0⟩ := trodAll_one hA
  obtain ⟨A, cap, l, rfl, h1, h2, h3, h4⟩ := open_bytesK (hval 0 47 v0 rfl rfl) h0
  clear hsz
  exact (lawKeep r A cap l W h3 h4 h1 h2 hT (mtab_of_shaped hsh) hS).mono fun e W' ⟨he, hb⟩ => ⟨_, he, hpost W' hb⟩

set_option maxRecDepth 100000 in
theorem rulesKeep_lifted (os : Os) (started : os.Started) (H : Type) (enc : TypeId × Value → H) :
    ReturnsInHanded {} Tryd.checked os 8 .any (fun w args => (Rows.rulesKeepSpec.pre enc Tryd.prog Tryd.f8 Rows.rulesKeepRow.domain false w args ∧ laidMetH Tryd.prog laidK w) ∧ sizedMet enc Tryd.prog Tryd.f8 (OpenSpec.ofChange Rows.rulesKeepSpec) false w args)
      (Rows.rulesKeepSpec.post enc Tryd.prog Tryd.f8 false true false false) := by
  refine returns_and_shaped (C := Tryd.checked) (X := fun w _ => laidMetH Tryd.prog laidK w) (fun _ _ _ hh h => h.of_heap hh) own started (by kernel_rfl) Tryd.func8
    (ChangeSpec.witness_shaped (enc := enc) (C := Tryd.checked) (os := os) (X := fun w _ => laidMetH Tryd.prog laidK w) false (World.doorLaid Tryd.prog 400 os) #[.slice none 0 0] 8 rfl
      (World.shaped_of_RefB (by kernel_rfl) (by kernel_rfl)) (by kernel_rfl) (by kernel_rfl) (by kernel_rfl) (door_metK os _)) ?_
  intro W base args ds gs before hval hW _ hsz hL hsh _
  exact rulesKeep_contract H enc W base args ds gs before hval hW hsz hL hsh

theorem rulesKeep_said : Rows.RulesKeepSaid :=
  OpenClaim.holds_of_wide 8 Tryd.f8 rfl rfl rfl rfl rfl rfl rfl ⟨rfl, rfl, rfl, rfl, rfl⟩ rfl rfl rfl rfl rfl (by kernel_rfl) Tryd.func8 (by kernel_rfl)
    (of_decide_eq_true (by kernel_rfl)) (by unfold Func.isWrapper; first | (rw [if_pos (by decide +kernel)]; kernel_rfl) | (rw [if_neg (by decide +kernel)]; exact ⟨rfl, rfl⟩))
    (fun os started H enc _ => rulesKeep_lifted os started H enc)

theorem rulesKeep_plain (f : FuncId) (fn : Func) (hf : Tryd.pinned.checked.prog.funcNamed "limner/limnerlaw13.RulesKeep" = some f) (hfn : Tryd.pinned.checked.prog.funcs[f]? = some fn) :
    true = Tryd.pinned.checked.prog.looks [] ∧ ∀ (j : Nat) t, fn.params[j]? = some t → Tryd.pinned.checked.prog.wantsStandIn t = false := by
  obtain rfl : f = 8 := Option.some.inj ((show Tryd.prog.funcNamed "limner/limnerlaw13.RulesKeep" = some 8 by kernel_rfl).symm.trans hf) |>.symm
  obtain rfl : fn = Tryd.f8 := (Option.some.inj (Tryd.func8.symm.trans hfn)).symm
  refine ⟨by kernel_rfl, fun j t ht => ?_⟩
  have hall : (Tryd.f8.params.toList.all fun u => !Tryd.prog.wantsStandIn u) = true := by kernel_rfl
  exact (show Tryd.prog.wantsStandIn t = false by simpa using List.all_eq_true.1 hall t (by simpa using Array.mem_of_getElem? ht))

/-- **The statement: the tied card.** -/
theorem rulesKeep_holds : Rows.RulesKeepCardSaid :=
  Claim7.holds_tied_plain_at .later [] _ _ _ _ rulesKeep_said (fun _ h => by cases h) (by kernel_rfl) (fun _ h => by cases h) rulesKeep_row_tie rfl ⟨rfl, rfl⟩ (by kernel_rfl) rfl rulesKeep_plain (by kernel_rfl)
#print axioms rulesKeep_holds
end Go.Proofs.YtfamoikmfbpigaaDoor
