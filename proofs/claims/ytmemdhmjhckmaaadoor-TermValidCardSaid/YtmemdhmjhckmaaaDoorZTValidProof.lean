/- TermValid: for every row of acts and every part the law answers true; the variables that the row lists are tied to the text of the program. No conditions. -/
import Derived.Test.YtmemdhmjhckmaaaDoorZ27
import Derived.Test.YtmemdhmjhckmaaaDoorZ28
namespace Go.Proofs.YtmemdhmjhckmaaaDoor
open Go.ChangeShapes Go.WideShapes Go.ChangeAt Go.RowKit
open Go.ChangeMaps (open_string)

set_option maxRecDepth 100000 in
theorem termValid_contract (H : Type) (enc : TypeId × Value → H) (W : World) (base : Nat) (args : Array Value) (ds gs : List (DataW H)) (before : List MemPlace)
    (hval : ∀ (j : Nat) t v, Tryd.f7.params[j]? = some t → args[j]? = some v → Value.okWide Tryd.prog W .any base t v)
    (hW : DataW.Whole enc Tryd.prog Tryd.f7.params.toList Rows.termValidSpec.vars false W args.toList ds gs before)
    (hsz : (DataW.weightsEach Tryd.prog (Tryd.f7.params.toList ++ Rows.termValidSpec.plain.varTypes Tryd.prog) (ds ++ gs)).all (· ≤ reachBytes) = true) (hL : laidMetH Tryd.prog laidList W) :
    Calls Tryd.prog 7 args W fun e W' => ∃ v, e = .returned v ∧ Rows.termValidSpec.post enc Tryd.prog Tryd.f7 false true false false W args v W' := by
  have hT := tabs_of_laid hL
  have hpost := fun W' hb => law_post (enc := enc) (f := Tryd.f7) (s := Rows.termValidSpec) (tb := 4) (W := W) (W' := W') (args := args) (ds := ds) (gs := gs) (before := before) rfl
    (fun ds h => by match ds, h with | [_, _], _ => rfl) rfl Tryd.underlying4 (by intro t ht; simp [Tryd.params7] at ht; rcases ht with rfl | rfl <;> exact ⟨by kernel_rfl, of_decide_eq_true (by kernel_rfl)⟩) hW hb
  obtain ⟨p, q, hA, hV, e, _, _⟩ := hW
  obtain ⟨rfl, rfl⟩ := trodVars_none hV
  simp only [List.append_nil] at e
  subst e
  rw [Tryd.params7] at hA hval
  obtain ⟨v0, v1, d0, d1, p0, p1, rfl, rfl, rfl, h0, h1⟩ := trodAll_two hA
  obtain ⟨A, cap, l, rfl, hc1, hc2, hok, hr⟩ := open_tacts (hval 0 58 v0 rfl rfl) h0
  obtain ⟨r1, rfl, rfl, rfl, n1⟩ := open_int Tryd.underlying59 (hval 1 59 v1 rfl rfl) h1
  have n2 : 0 ≤ r1 ∧ r1 ≤ 65535 := by simpa [Lit.wf, IntKind.min, IntKind.max, IntKind.signed, IntKind.bits] using n1
  obtain ⟨a, rfl⟩ : ∃ n : Nat, r1 = (n : Int) := ⟨r1.toNat, by omega⟩
  clear hsz
  unfold maxLen at hc2
  exact (lawValid W hT A cap l (by omega) hr hok a (by omega)).mono fun e W' ⟨he, hb⟩ => ⟨_, he, hpost W' hb⟩

set_option maxRecDepth 100000 in
theorem termValid_lifted (os : Os) (started : os.Started) (H : Type) (enc : TypeId × Value → H) :
    ReturnsInHanded {} Tryd.checked os 7 .any (fun w args => (Rows.termValidSpec.pre enc Tryd.prog Tryd.f7 Rows.termValidRow.domain false w args ∧ laidMetH Tryd.prog laidList w) ∧ sizedMet enc Tryd.prog Tryd.f7 (OpenSpec.ofChange Rows.termValidSpec) false w args)
      (Rows.termValidSpec.post enc Tryd.prog Tryd.f7 false true false false) := by
  refine returnsInHanded_of_change_and (C := Tryd.checked) (X := fun w _ => laidMetH Tryd.prog laidList w) (fun _ _ _ hh h => h.of_heap hh) own started (by kernel_rfl) Tryd.func7
    (ChangeSpec.witness_shaped (enc := enc) (C := Tryd.checked) (os := os) (X := fun w _ => laidMetH Tryd.prog laidList w) false (World.laidAll Tryd.prog os laidList) #[.slice none 0 0, .int .u16 0] 8 (World.laidAll_os _ _ _)
      (World.shaped_of_ZipB (by kernel_rfl) (by kernel_rfl)) (by kernel_rfl) (by kernel_rfl) (by kernel_rfl)
      (by rw [MakeChecks.laidMetH_plain _ _ _ (by kernel_rfl)]; exact laidMet_laidAll _ (by kernel_rfl) (by kernel_rfl))) ?_
  intro W base args ds gs before hval hW _ hsz hL _
  exact termValid_contract H enc W base args ds gs before hval hW hsz hL

theorem termValid_said : Rows.TermValidSaid :=
  OpenClaim.holds_of_wide 7 Tryd.f7 rfl rfl rfl rfl rfl rfl rfl ⟨rfl, rfl, rfl, rfl, rfl⟩ rfl rfl rfl rfl rfl (by kernel_rfl) Tryd.func7 (by kernel_rfl)
    (of_decide_eq_true (by kernel_rfl)) (by unfold Func.isWrapper; first | (rw [if_pos (by decide +kernel)]; kernel_rfl) | (rw [if_neg (by decide +kernel)]; exact ⟨rfl, rfl⟩))
    (fun os started H enc _ => termValid_lifted os started H enc)

theorem termValid_plain (f : FuncId) (fn : Func) (hf : Tryd.pinned.checked.prog.funcNamed "limner/limnerlaw08.TermValid" = some f) (hfn : Tryd.pinned.checked.prog.funcs[f]? = some fn) :
    false = Tryd.pinned.checked.prog.looks [] ∧ ∀ (j : Nat) t, fn.params[j]? = some t → Tryd.pinned.checked.prog.wantsStandIn t = false := by
  obtain rfl : f = 7 := Option.some.inj ((show Tryd.prog.funcNamed "limner/limnerlaw08.TermValid" = some 7 by kernel_rfl).symm.trans hf) |>.symm
  obtain rfl : fn = Tryd.f7 := (Option.some.inj (Tryd.func7.symm.trans hfn)).symm
  refine ⟨by kernel_rfl, fun j t ht => ?_⟩
  have hall : (Tryd.f7.params.toList.all fun u => !Tryd.prog.wantsStandIn u) = true := by kernel_rfl
  exact (show Tryd.prog.wantsStandIn t = false by simpa using List.all_eq_true.1 hall t (by simpa using Array.mem_of_getElem? ht))

/-- **The statement: the tied card.** -/
theorem termValid_holds : Rows.TermValidCardSaid :=
  Claim7.holds_tied_plain_at .later [] _ _ _ _ termValid_said (fun _ h => by cases h) (by kernel_rfl) (fun _ h => by cases h) termValid_row_tie rfl ⟨rfl, rfl⟩ (by kernel_rfl) rfl termValid_plain (by kernel_rfl)
#print axioms termValid_holds
end Go.Proofs.YtmemdhmjhckmaaaDoor
