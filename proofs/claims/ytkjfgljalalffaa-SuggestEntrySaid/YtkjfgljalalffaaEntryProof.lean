/- SuggestEntry: for every slice of strings, every string and every two bytes the law answers true, and its arguments read as before. No conditions. -/
import Derived.Test.YtkjfgljalalffaaOpens
import Derived.Test.YtkjfgljalalffaaEntry
namespace Go.Proofs.Ytkjfgljalalffaa
open Go.ChangeShapes Go.WideShapes Go.ChangeAt Go.RowKit
open Go.ChangeMaps (open_string)

theorem suggestEntry_contract (H : Type) (enc : TypeId × Value → H) (W : World) (base : Nat) (args : Array Value) (ds gs : List (DataW H)) (before : List MemPlace)
    (hval : ∀ (j : Nat) t v, Try.f4.params[j]? = some t → args[j]? = some v → Value.okWide Try.prog W .any base t v)
    (hW : DataW.Whole enc Try.prog Try.f4.params.toList Rows.suggestEntrySpec.vars false W args.toList ds gs before)
    (hsz : (DataW.weightsEach Try.prog (Try.f4.params.toList ++ Rows.suggestEntrySpec.plain.varTypes Try.prog) (ds ++ gs)).all (· ≤ reachBytes) = true) :
    Calls Try.prog 4 args W fun e W' => ∃ v, e = .returned v ∧ Rows.suggestEntrySpec.post enc Try.prog Try.f4 false true false false W args v W' := by
  have hpost := fun W' hb => law_post (enc := enc) (f := Try.f4) (s := Rows.suggestEntrySpec) (tb := 4) (W := W) (W' := W') (args := args) (ds := ds) (gs := gs) (before := before) rfl
    (fun ds h => by match ds, h with | [_, _, _], _ => rfl) rfl Try.underlying4 (by intro t ht; simp [Try.params4] at ht; rcases ht with rfl | rfl | rfl <;> exact ⟨by kernel_rfl, of_decide_eq_true (by kernel_rfl)⟩) hW hb
  obtain ⟨p, q, hA, hV, e, _, _⟩ := hW
  obtain ⟨rfl, rfl⟩ := trodVars_none hV
  simp only [List.append_nil] at e
  subst e
  rw [Try.params4] at hA hval
  obtain ⟨v0, v1, v2, d0, d1, d2, p0, p1, p2, rfl, rfl, rfl, h0, h1, h2⟩ := trodAll_three hA
  obtain ⟨zs, hI, hd, _⟩ := open_strs Try.underlying22 Try.underlying9 cellsStr (hval 0 22 v0 rfl rfl) h0
  obtain ⟨s, rfl, rfl, rfl, m0⟩ := open_string Try.underlying9 (hval 1 9 v1 rfl rfl) h1
  obtain ⟨a0, a1, rfl, b0, b1⟩ := open_bytes2 Try.underlying29 Try.underlying5 cellsByte cellsB2 (hval 2 29 v2 rfl rfl) h2
  have hlen := strs_bound (j := 0) hd hsz rfl rfl
  unfold maxLen at m0
  exact (entry_any v0 zs s a0 a1 W hlen (by omega) b0 b1 hI).mono fun e W' ⟨he, hb⟩ => ⟨_, he, hpost W' hb⟩

set_option maxRecDepth 100000 in
theorem suggestEntry_lifted (os : Os) (started : os.Started) (H : Type) (enc : TypeId × Value → H) :
    ReturnsInHanded {} Try.checked os 4 .any (Rows.suggestEntrySpec.pre6 enc Try.prog Try.f4 Rows.suggestEntryRow.domain false) (Rows.suggestEntrySpec.post enc Try.prog Try.f4 false true false false) := by
  refine returnsInHanded_of_change_sized (C := Try.checked) own started (by kernel_rfl) Try.func4
    (ChangeSpec.witness6 (enc := enc) (C := Try.checked) false ⟨#[], #[.slice none 0 0, .string ⟨#[]⟩, .agg #[.int .u8 0, .int .u8 0]], []⟩ 8 (by kernel_rfl) (by kernel_rfl) (by kernel_rfl) (by kernel_rfl)) ?_
  intro W base args ds gs before hval hW _ hsz _
  exact suggestEntry_contract H enc W base args ds gs before hval hW hsz

/-- **The statement.** -/
theorem suggestEntry_holds : Rows.SuggestEntrySaid :=
  OpenClaim.holds_of_wide 4 Try.f4 rfl rfl rfl rfl rfl rfl rfl ⟨rfl, rfl, rfl, rfl, rfl⟩ rfl rfl rfl rfl rfl (by kernel_rfl) Try.func4 (by kernel_rfl)
    (of_decide_eq_true (by kernel_rfl)) (by unfold Func.isWrapper; first | (rw [if_pos (by decide +kernel)]; kernel_rfl) | (rw [if_neg (by decide +kernel)]; exact ⟨rfl, rfl⟩))
    (fun os started H enc _ => suggestEntry_lifted os started H enc)
#print axioms suggestEntry_holds
end Go.Proofs.Ytkjfgljalalffaa
