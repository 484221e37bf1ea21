/- PlacesBack: for every text and number the law answers true, and its arguments read as before. No conditions. -/
import Derived.Test.YtkmcfcpockpadaaFrame
import Derived.Test.YtkmcfcpockpadaaPback2
namespace Go.Proofs.Ytkmcfcpockpadaa
open Go.ChangeShapes Go.WideShapes Go.ChangeAt Go.RowKit
open Go.ChangeMaps (open_string)

theorem placesBack_contract (H : Type) (enc : TypeId × Value → H) (W : World) (base : Nat) (args : Array Value) (ds gs : List (DataW H)) (before : List MemPlace)
    (hval : ∀ (j : Nat) t v, Try.f4.params[j]? = some t → args[j]? = some v → Value.okWide Try.prog W .any base t v)
    (hW : DataW.Whole enc Try.prog Try.f4.params.toList Rows.placesBackSpec.vars false W args.toList ds gs before)
    (hsz : (DataW.weightsEach Try.prog (Try.f4.params.toList ++ Rows.placesBackSpec.plain.varTypes Try.prog) (ds ++ gs)).all (· ≤ reachBytes) = true) :
    Calls Try.prog 4 args W fun e W' => ∃ v, e = .returned v ∧ Rows.placesBackSpec.post enc Try.prog Try.f4 false true false false W args v W' := by
  have hpost := fun W' hb => law_post (enc := enc) (f := Try.f4) (s := Rows.placesBackSpec) (tb := 4) (W := W) (W' := W') (args := args) (ds := ds) (gs := gs) (before := before) rfl
    (fun ds h => by match ds, h with | [_, _], _ => rfl) rfl Try.underlying4 (by intro t ht; simp [Try.params4] at ht; rcases ht with rfl | rfl <;> exact ⟨by kernel_rfl, of_decide_eq_true (by kernel_rfl)⟩) hW hb
  obtain ⟨p, q, hA, hV, e, _, _⟩ := hW
  obtain ⟨rfl, rfl⟩ := trodVars_none hV
  simp only [List.append_nil] at e
  subst e
  rw [Try.params4] at hA hval
  obtain ⟨v0, v1, d0, d1, p0, p1, rfl, rfl, rfl, h0, h1⟩ := trodAll_two hA
  obtain ⟨s0, rfl, rfl, rfl, m0⟩ := open_string Try.underlying9 (hval 0 9 v0 rfl rfl) h0
  obtain ⟨r1, rfl, rfl, rfl, n1⟩ := open_int Try.underlying28 (hval 1 28 v1 rfl rfl) h1
  clear hsz
  unfold maxLen at m0
  have k1 : 0 ≤ r1 ∧ r1 ≤ 65535 := by simpa [Lit.wf, IntKind.min, IntKind.max, IntKind.signed, IntKind.bits] using n1
  exact (PlacesBack_any s0 r1 W (by omega) k1).mono fun e W' ⟨he, hb⟩ => ⟨_, he, hpost W' hb⟩

set_option maxRecDepth 100000 in
theorem placesBack_lifted (os : Os) (started : os.Started) (H : Type) (enc : TypeId × Value → H) :
    ReturnsInHanded {} Try.checked os 4 .any (Rows.placesBackSpec.pre6 enc Try.prog Try.f4 Rows.placesBackRow.domain false) (Rows.placesBackSpec.post enc Try.prog Try.f4 false true false false) := by
  refine returnsInHanded_of_change_sized (C := Try.checked) own started (by kernel_rfl) Try.func4
    (ChangeSpec.witness6 (enc := enc) (C := Try.checked) false ⟨#[], #[.string ⟨#[]⟩, .int .u16 0], []⟩ 8 (by kernel_rfl) (by kernel_rfl) (by kernel_rfl) (by kernel_rfl)) ?_
  intro W base args ds gs before hval hW _ hsz _
  exact placesBack_contract H enc W base args ds gs before hval hW hsz

/-- **The statement.** -/
theorem placesBack_holds : Rows.PlacesBackSaid :=
  OpenClaim.holds_of_wide 4 Try.f4 rfl rfl rfl rfl rfl rfl rfl ⟨rfl, rfl, rfl, rfl, rfl⟩ rfl rfl rfl rfl rfl (by kernel_rfl) Try.func4 (by kernel_rfl)
    (of_decide_eq_true (by kernel_rfl)) (by unfold Func.isWrapper; first | (rw [if_pos (by decide +kernel)]; kernel_rfl) | (rw [if_neg (by decide +kernel)]; exact ⟨rfl, rfl⟩))
    (fun os started H enc _ => placesBack_lifted os started H enc)
#print axioms placesBack_holds
end Go.Proofs.Ytkmcfcpockpadaa
