/- SuggestTell: for every slice of strings and every two strings the law answers true, and its arguments read as before. No conditions. -/
import Derived.Test.YtkjfgljalalffaaFrame
import Derived.Test.YtkjfgljalalffaaTell
namespace Go.Proofs.Ytkjfgljalalffaa
open Go.ChangeShapes Go.WideShapes Go.ChangeAt Go.RowKit
open Go.ChangeMaps (open_string)

section
variable {H : Type} {enc : TypeId × Value → H}
/-- A slice of strings that came in. -/
theorem open_strs {w : World} {t e : TypeId} {v : Value} {d : DataW H} {p : List MemPlace} (ht : Try.prog.underlying t = some (.slice e)) (he : Try.prog.underlying e = some .string) (hc : Try.prog.cellsOf e = 1)
    {b0 : Nat} (hv : Value.okWide Try.prog w .any b0 t v) (h : DataW.Trod enc Try.prog w 0 (fun _ => true) true t v d p) (hlt : ∀ x ∈ p, x.block < w.heap.size) :
    ∃ zs : List ByteArray, Strs w.heap.size w v zs ∧ ((∃ sp, d = .slice (strs zs) sp) ∨ zs = []) ∧ ∀ s ∈ zs, s.size ≤ maxLen := by
  obtain ⟨a0, len, cap, rfl⟩ := okWide_slice ht hv
  obtain ⟨fuel, hf⟩ := h
  rcases open_strings ht he hc hf with ⟨hcs, hx⟩ | ⟨a, len', cap', ss, hcs, _, hl, hm, hz, hx, hcell, hss⟩
  · simp [Value.cells] at hcs
    obtain ⟨rfl, rfl, rfl⟩ := hcs
    exact ⟨[], ⟨none, 0, rfl, .inl rfl⟩, .inr rfl, by simp⟩
  · simp [Value.cells] at hcs
    obtain ⟨rfl, rfl, rfl⟩ := hcs
    simp only [if_true] at hz
    obtain ⟨hd, hp⟩ := Prod.mk.inj hx
    have hlen : (ss.take len).length = len := by rw [List.length_take]; omega
    refine ⟨ss.take len, ⟨some a, cap, by rw [hlen], ?_⟩, .inl ⟨_, hd⟩, fun s hs => hss s (List.mem_of_mem_take hs)⟩
    by_cases h0 : len = 0
    · left; rw [h0]; rfl
    · right
      obtain ⟨b, off, spot⟩ := a
      have c0 := hcell 0 (by omega)
      have hspot : spot = none := by simpa [Addr.add] using World.cell?_spot c0
      subst hspot
      refine ⟨b, off, rfl, ?_, fun j hj => ?_⟩
      · have := World.block_lt_of_cell? w _ c0
        simpa [Addr.add] using this
      · rw [hlen] at hj
        have := hcell j (by omega)
        have e : (⟨b, off, none⟩ : Addr).add j = ⟨b, off + j, none⟩ := by unfold Addr.add; split <;> simp_all
        rw [e] at this
        rw [this]
        simp [List.getD, List.getElem?_take, hj]
/-- An array of two strings that came in, by value. -/
theorem open_two {w : World} {t e : TypeId} {v : Value} {d : DataW H} {p : List MemPlace} (ht : Try.prog.underlying t = some (.array 2 e)) (he : Try.prog.underlying e = some .string) (hc : Try.prog.cellsOf e = 1) (hct : Try.prog.cellsOf t = 2)
    {b0 : Nat} (hv : Value.okWide Try.prog w .any b0 t v) (h : DataW.Trod enc Try.prog w 0 (fun _ => true) true t v d p) :
    ∃ s0 s1 : ByteArray, v = .agg #[.string s0, .string s1] ∧ s0.size ≤ maxLen ∧ s1.size ≤ maxLen := by
  obtain ⟨cs, rfl, hsz⟩ := okWide_array ht hv
  rw [hct] at hsz
  obtain ⟨l⟩ := cs
  match l, hsz with
  | [c0, c1], _ =>
    obtain ⟨fuel, hf⟩ := h
    obtain ⟨xs, m, _, _, _, hlen, hi⟩ := DataW.trod_array ht hf
    have h0 := hi 0 (by omega)
    have h1 := hi 1 (by omega)
    match xs, hlen with
    | [y0, y1], _ =>
      simp [Value.cells, hc] at h0 h1
      obtain ⟨s0, e0, _, m0⟩ := DataW.trod_string he h0
      obtain ⟨s1, e1, _, m1⟩ := DataW.trod_string he h1
      simp only [List.cons.injEq, and_true] at e0 e1
      exact ⟨s0, s1, by rw [e0, e1], m0, m1⟩
end

theorem cellsStr : Try.prog.cellsOf 9 = 1 := by kernel_rfl
theorem cellsTwo : Try.prog.cellsOf 23 = 2 := by kernel_rfl

theorem bytesStr : Try.prog.bytesOf 9 = 16 := by kernel_rfl
theorem strs_len {H : Type} (zs : List ByteArray) : (strs (H := H) zs).length = zs.length := by simp [strs]

theorem tell_contract (H : Type) (enc : TypeId × Value → H) (W : World) (base : Nat) (args : Array Value) (ds gs : List (DataW H)) (before : List MemPlace)
    (hval : ∀ (j : Nat) t v, Try.f3.params[j]? = some t → args[j]? = some v → Value.okWide Try.prog W .any base t v)
    (hW : DataW.Whole enc Try.prog Try.f3.params.toList Rows.suggestTellSpec.vars false W args.toList ds gs before)
    (hsz : (DataW.weightsEach Try.prog (Try.f3.params.toList ++ Rows.suggestTellSpec.plain.varTypes Try.prog) (ds ++ gs)).all (· ≤ reachBytes) = true) :
    Calls Try.prog 3 args W fun e W' => ∃ v, e = .returned v ∧ Rows.suggestTellSpec.post enc Try.prog Try.f3 false true false false W args v W' := by
  have hpost := fun W' hb => law_post (enc := enc) (f := Try.f3) (s := Rows.suggestTellSpec) (tb := 4) (W := W) (W' := W') (args := args) (ds := ds) (gs := gs) (before := before) rfl
    (fun ds h => by match ds, h with | [_, _], _ => rfl) rfl Try.underlying4 (by intro t ht; simp [Try.params3] at ht; rcases ht with rfl | rfl <;> exact ⟨by kernel_rfl, of_decide_eq_true (by kernel_rfl)⟩) hW hb
  have hlt : ∀ p ∈ before, p.block < W.heap.size := fun p hp => hW.lt p hp
  obtain ⟨p, q, hA, hV, e, _, _⟩ := hW
  obtain ⟨rfl, rfl⟩ := trodVars_none hV
  simp only [List.append_nil] at e
  subst e
  rw [Try.params3] at hA hval
  obtain ⟨v0, v1, d0, d1, p0, p1, rfl, rfl, rfl, h0, h1⟩ := trodAll_two hA
  obtain ⟨zs, hI, hd, _⟩ := open_strs Try.underlying22 Try.underlying9 cellsStr (hval 0 22 v0 rfl rfl) h0 (fun x hx => hlt x (List.mem_append_left _ hx))
  obtain ⟨s0, s1, rfl, m0, m1⟩ := open_two Try.underlying23 Try.underlying9 cellsStr cellsTwo (hval 1 23 v1 rfl rfl) h1
  have hlen : zs.length ≤ 17592186044415 := by
    rcases hd with ⟨sp, rfl⟩ | rfl
    · have := sized_slice hsz (j := 0) (t := 22) (e := 9) (elems := strs zs) (spare := sp) rfl rfl Try.underlying22
      rw [bytesStr, strs_len] at this
      have := reachBytes_lt
      omega
    · simp
  unfold maxLen at m0 m1
  exact (tell_any v0 zs s0 s1 W hlen (by omega) (by omega) hI).mono fun e W' ⟨he, hb⟩ => ⟨_, he, hpost W' hb⟩

set_option maxRecDepth 100000 in
theorem tell_lifted (os : Os) (started : os.Started) (H : Type) (enc : TypeId × Value → H) :
    ReturnsInHanded {} Try.checked os 3 .any (Rows.suggestTellSpec.pre6 enc Try.prog Try.f3 Rows.suggestTellRow.domain false) (Rows.suggestTellSpec.post enc Try.prog Try.f3 false true false false) := by
  refine returnsInHanded_of_change_sized (C := Try.checked) own started (by kernel_rfl) Try.func3
    (ChangeSpec.witness6 (enc := enc) (C := Try.checked) false ⟨#[], #[.slice none 0 0, .agg #[.string ⟨#[]⟩, .string ⟨#[]⟩]], []⟩ 8 (by kernel_rfl) (by kernel_rfl) (by kernel_rfl) (by kernel_rfl)) ?_
  intro W base args ds gs before hval hW _ hsz _
  exact tell_contract H enc W base args ds gs before hval hW hsz

/-- **The statement.** -/
theorem tell_holds : Rows.SuggestTellSaid :=
  OpenClaim.holds_of_wide 3 Try.f3 rfl rfl rfl rfl rfl rfl rfl ⟨rfl, rfl, rfl, rfl, rfl⟩ rfl rfl rfl rfl rfl (by kernel_rfl) Try.func3 (by kernel_rfl)
    (of_decide_eq_true (by kernel_rfl)) (by unfold Func.isWrapper; first | (rw [if_pos (by decide +kernel)]; kernel_rfl) | (rw [if_neg (by decide +kernel)]; exact ⟨rfl, rfl⟩))
    (fun os started H enc _ => tell_lifted os started H enc)
#print axioms tell_holds
end Go.Proofs.Ytkjfgljalalffaa
