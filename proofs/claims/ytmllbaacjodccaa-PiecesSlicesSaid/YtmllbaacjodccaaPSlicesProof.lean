/- PiecesSlices: for every slice of strings and every three 16-bit numbers the law answers true, and its arguments read as before. No conditions. -/
import Derived.Test.YtmllbaacjodccaaPopens2
import Derived.Test.YtmllbaacjodccaaPslices
namespace Go.Proofs.Ytmllbaacjodccaa
open Go.ChangeShapes Go.WideShapes Go.ChangeAt Go.RowKit
open Go.ChangeMaps (open_string)

theorem piecesSlices_contract (H : Type) (enc : TypeId × Value → H) (W : World) (base : Nat) (args : Array Value) (ds gs : List (DataW H)) (before : List MemPlace)
    (hval : ∀ (j : Nat) t v, Try.f4.params[j]? = some t → args[j]? = some v → Value.okWide Try.prog W .any base t v)
    (hW : DataW.Whole enc Try.prog Try.f4.params.toList Rows.piecesSlicesSpec.vars false W args.toList ds gs before)
    (hsz : (DataW.weightsEach Try.prog (Try.f4.params.toList ++ Rows.piecesSlicesSpec.plain.varTypes Try.prog) (ds ++ gs)).all (· ≤ reachBytes) = true) :
    Calls Try.prog 4 args W fun e W' => ∃ v, e = .returned v ∧ Rows.piecesSlicesSpec.post enc Try.prog Try.f4 false true false false W args v W' := by
  have hpost := fun W' hb => law_post (enc := enc) (f := Try.f4) (s := Rows.piecesSlicesSpec) (tb := 4) (W := W) (W' := W') (args := args) (ds := ds) (gs := gs) (before := before) rfl
    (fun ds h => by match ds, h with | [_, _], _ => rfl) rfl Try.underlying4 (by intro t ht; simp [Try.params4] at ht; rcases ht with rfl | rfl <;> exact ⟨by kernel_rfl, of_decide_eq_true (by kernel_rfl)⟩) hW hb
  obtain ⟨p, q, hA, hV, e, _, _⟩ := hW
  obtain ⟨rfl, rfl⟩ := trodVars_none hV
  simp only [List.append_nil] at e
  subst e
  rw [Try.params4] at hA hval
  obtain ⟨v0, v1, d0, d1, p0, p1, rfl, rfl, rfl, h0, h1⟩ := trodAll_two hA
  obtain ⟨zs, hI⟩ := open_lstrs Try.underlying35 Try.underlying9 cellsStrP (hval 0 35 v0 rfl rfl) h0
  obtain ⟨x0, x1, x2, rfl, r0, r1, r2⟩ := open_u16s3 Try.underlying36 Try.underlying22 cellsU16 cellsU3 (hval 1 36 v1 rfl rfl) h1
  exact (PiecesSlices_any v0 zs x0 x1 x2 W hI r0 r1 r2).mono fun e W' ⟨he, hb⟩ => ⟨_, he, hpost W' hb⟩

set_option maxRecDepth 100000 in
theorem piecesSlices_lifted (os : Os) (started : os.Started) (H : Type) (enc : TypeId × Value → H) :
    ReturnsInHanded {} Try.checked os 4 .any (Rows.piecesSlicesSpec.pre6 enc Try.prog Try.f4 Rows.piecesSlicesRow.domain false) (Rows.piecesSlicesSpec.post enc Try.prog Try.f4 false true false false) := by
  refine returnsInHanded_of_change_sized (C := Try.checked) own started (by kernel_rfl) Try.func4
    (ChangeSpec.witness6 (enc := enc) (C := Try.checked) false ⟨#[], #[.slice none 0 0, .agg #[.int .u16 0, .int .u16 0, .int .u16 0]], []⟩ 8 (by kernel_rfl) (by kernel_rfl) (by kernel_rfl) (by kernel_rfl)) ?_
  intro W base args ds gs before hval hW _ hsz _
  exact piecesSlices_contract H enc W base args ds gs before hval hW hsz

/-- **The statement.** -/
theorem piecesSlices_holds : Rows.PiecesSlicesSaid :=
  OpenClaim.holds_of_wide 4 Try.f4 rfl rfl rfl rfl rfl rfl rfl ⟨rfl, rfl, rfl, rfl, rfl⟩ rfl rfl rfl rfl rfl (by kernel_rfl) Try.func4 (by kernel_rfl)
    (of_decide_eq_true (by kernel_rfl)) (by unfold Func.isWrapper; first | (rw [if_pos (by decide +kernel)]; kernel_rfl) | (rw [if_neg (by decide +kernel)]; exact ⟨rfl, rfl⟩))
    (fun os started H enc _ => piecesSlices_lifted os started H enc)
#print axioms piecesSlices_holds
end Go.Proofs.Ytmllbaacjodccaa
