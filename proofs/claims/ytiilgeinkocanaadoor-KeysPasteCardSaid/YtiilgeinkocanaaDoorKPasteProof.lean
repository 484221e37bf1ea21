/- KeysPaste: for all texts and acts the law answers true; the variables that the row lists are tied to the text of the program. No conditions. -/
import Derived.Test.YtiilgeinkocanaaDoorKdoor
import Derived.Test.YtiilgeinkocanaaDoorKpastelaw
import Derived.Test.YtiilgeinkocanaaDoorKopens2
namespace Go.Proofs.YtiilgeinkocanaaDoor
open Go.ChangeShapes Go.WideShapes Go.ChangeAt Go.RowKit
open Go.ChangeMaps (open_string)

set_option maxRecDepth 100000 in
theorem keysPaste_contract (H : Type) (enc : TypeId × Value → H) (W : World) (base : Nat) (args : Array Value) (ds gs : List (DataW H)) (before : List MemPlace)
    (hval : ∀ (j : Nat) t v, Tryd.f5.params[j]? = some t → args[j]? = some v → Value.okWide Tryd.prog W .any base t v)
    (hW : DataW.Whole enc Tryd.prog Tryd.f5.params.toList Rows.keysPasteSpec.vars false W args.toList ds gs before)
    (hsz : (DataW.weightsEach Tryd.prog (Tryd.f5.params.toList ++ Rows.keysPasteSpec.plain.varTypes Tryd.prog) (ds ++ gs)).all (· ≤ reachBytes) = true) (hL : laidMetH Tryd.prog laidList W) :
    Calls Tryd.prog 5 args W fun e W' => ∃ v, e = .returned v ∧ Rows.keysPasteSpec.post enc Tryd.prog Tryd.f5 false true false false W args v W' := by
  have hT := tabs_of_laid hL
  have hpost := fun W' hb => law_post (enc := enc) (f := Tryd.f5) (s := Rows.keysPasteSpec) (tb := 4) (W := W) (W' := W') (args := args) (ds := ds) (gs := gs) (before := before) rfl
    (fun ds h => by match ds, h with | [_, _], _ => rfl) rfl Tryd.underlying4 (by intro t ht; simp [Tryd.params5] at ht; rcases ht with rfl | rfl <;> exact ⟨by kernel_rfl, of_decide_eq_true (by kernel_rfl)⟩) hW hb
  obtain ⟨p, q, hA, hV, e, _, _⟩ := hW
  obtain ⟨rfl, rfl⟩ := trodVars_none hV
  simp only [List.append_nil] at e
  subst e
  rw [Tryd.params5] at hA hval
  obtain ⟨v0, v1, d0, d1, p0, p1, rfl, rfl, rfl, h0, h1⟩ := trodAll_two hA
  obtain ⟨s0, rfl, rfl, rfl, m0⟩ := open_string Tryd.underlying9 (hval 0 9 v0 rfl rfl) h0
  obtain ⟨s1, b1, rfl, m1⟩ := open_act (hval 1 38 v1 rfl rfl) h1
  clear hsz
  unfold maxLen at m0 m1
  exact (keysPaste_walk s0 s1 b1 W m0 m1 hT.1 hT.2).mono fun e W' ⟨he, hb⟩ => ⟨_, he, hpost W' hb⟩

set_option maxRecDepth 100000 in
theorem keysPaste_lifted (os : Os) (started : os.Started) (H : Type) (enc : TypeId × Value → H) :
    ReturnsInHanded {} Tryd.checked os 5 .any (fun w args => (Rows.keysPasteSpec.pre enc Tryd.prog Tryd.f5 Rows.keysPasteRow.domain false w args ∧ laidMetH Tryd.prog laidList w) ∧ sizedMet enc Tryd.prog Tryd.f5 (OpenSpec.ofChange Rows.keysPasteSpec) false w args)
      (Rows.keysPasteSpec.post enc Tryd.prog Tryd.f5 false true false false) := by
  refine returnsInHanded_of_change_and (C := Tryd.checked) (X := fun w _ => laidMetH Tryd.prog laidList w) (fun _ _ _ hh h => h.of_heap hh) own started (by kernel_rfl) Tryd.func5
    (ChangeSpec.witness_shaped (enc := enc) (C := Tryd.checked) (os := os) (X := fun w _ => laidMetH Tryd.prog laidList w) false (World.laidAll Tryd.prog os laidList) #[.string ⟨#[]⟩, .agg #[.string ⟨#[]⟩, .bool false]] 8 (World.laidAll_os _ _ _)
      (World.shaped_of_ZipB (by kernel_rfl) (by kernel_rfl)) (by kernel_rfl) (by kernel_rfl) (by kernel_rfl)
      (by rw [MakeChecks.laidMetH_plain _ _ _ (by kernel_rfl)]; exact laidMet_laidAll _ (by kernel_rfl) (by kernel_rfl))) ?_
  intro W base args ds gs before hval hW _ hsz hL _
  exact keysPaste_contract H enc W base args ds gs before hval hW hsz hL

theorem keysPaste_said : Rows.KeysPasteSaid :=
  OpenClaim.holds_of_wide 5 Tryd.f5 rfl rfl rfl rfl rfl rfl rfl ⟨rfl, rfl, rfl, rfl, rfl⟩ rfl rfl rfl rfl rfl (by kernel_rfl) Tryd.func5 (by kernel_rfl)
    (of_decide_eq_true (by kernel_rfl)) (by unfold Func.isWrapper; first | (rw [if_pos (by decide +kernel)]; kernel_rfl) | (rw [if_neg (by decide +kernel)]; exact ⟨rfl, rfl⟩))
    (fun os started H enc _ => keysPaste_lifted os started H enc)

theorem keysPaste_plain (f : FuncId) (fn : Func) (hf : Tryd.pinned.checked.prog.funcNamed "limner/limnerlaw09.KeysPaste" = some f) (hfn : Tryd.pinned.checked.prog.funcs[f]? = some fn) :
    true = Tryd.pinned.checked.prog.looks [] ∧ ∀ (j : Nat) t, fn.params[j]? = some t → Tryd.pinned.checked.prog.wantsStandIn t = false := by
  obtain rfl : f = 5 := Option.some.inj ((show Tryd.prog.funcNamed "limner/limnerlaw09.KeysPaste" = some 5 by kernel_rfl).symm.trans hf) |>.symm
  obtain rfl : fn = Tryd.f5 := (Option.some.inj (Tryd.func5.symm.trans hfn)).symm
  refine ⟨by kernel_rfl, fun j t ht => ?_⟩
  have hall : (Tryd.f5.params.toList.all fun u => !Tryd.prog.wantsStandIn u) = true := by kernel_rfl
  exact (show Tryd.prog.wantsStandIn t = false by simpa using List.all_eq_true.1 hall t (by simpa using Array.mem_of_getElem? ht))

/-- **The statement: the tied card.** -/
theorem keysPaste_holds : Rows.KeysPasteCardSaid :=
  Claim7.holds_tied_plain_at .later [] _ _ _ _ keysPaste_said (fun _ h => by cases h) (by kernel_rfl) (fun _ h => by cases h) keysPaste_row_tie rfl ⟨rfl, rfl⟩ (by kernel_rfl) rfl keysPaste_plain (by kernel_rfl)
#print axioms keysPaste_holds
end Go.Proofs.YtiilgeinkocanaaDoor
