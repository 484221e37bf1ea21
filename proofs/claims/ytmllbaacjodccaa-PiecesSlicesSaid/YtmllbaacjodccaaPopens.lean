/- Opening the arguments of this seat's laws. -/
import Derived.Test.YtmllbaacjodccaaFrame
import Derived.Test.YtmllbaacjodccaaPput
namespace Go.Proofs.Ytmllbaacjodccaa
open Go.ChangeShapes Go.WideShapes Go.ChangeAt Go.RowKit
open Go.ChangeMaps (open_string)

section
variable {H : Type} {enc : TypeId × Value → H}
/-- An array of two 16-bit numbers that came in, by value. -/
theorem open_u16s2 {w : World} {t e : TypeId} {v : Value} {d : DataW H} {p : List MemPlace} (ht : Try.prog.underlying t = some (.array 2 e)) (he : Try.prog.underlying e = some (.int .u16)) (hc : Try.prog.cellsOf e = 1) (hct : Try.prog.cellsOf t = 2)
    {b0 : Nat} (hv : Value.okWide Try.prog w .any b0 t v) (h : DataW.Trod enc Try.prog w 0 (fun _ => true) true t v d p) :
    ∃ a0 a1 : Int, v = .agg #[.int .u16 a0, .int .u16 a1] ∧ (0 ≤ a0 ∧ a0 ≤ 65535) ∧ (0 ≤ a1 ∧ a1 ≤ 65535) := by
  obtain ⟨cs, rfl, hsz⟩ := okWide_array ht hv
  rw [hct] at hsz
  obtain ⟨l⟩ := cs
  match l, hsz with
  | [c0, c1], _ =>
    obtain ⟨fuel, hf⟩ := h
    obtain ⟨xs, m, _, _, _, hlen, hi⟩ := DataW.trod_array ht hf
    have h0 := hi 0 (by omega)
    have h1 := hi 1 (by omega)
    match xs, hlen with
    | [y0, y1], _ =>
      simp [Value.cells, hc] at h0 h1
      obtain ⟨s0, e0, _, m0⟩ := DataW.trod_int he h0
      obtain ⟨s1, e1, _, m1⟩ := DataW.trod_int he h1
      simp only [List.cons.injEq, and_true] at e0 e1
      refine ⟨s0, s1, by rw [e0, e1], ?_, ?_⟩
      · simpa [Lit.wf, IntKind.min, IntKind.max, IntKind.signed, IntKind.bits] using m0
      · simpa [Lit.wf, IntKind.min, IntKind.max, IntKind.signed, IntKind.bits] using m1
/-- An array of three 16-bit numbers that came in, by value. -/
theorem open_u16s3 {w : World} {t e : TypeId} {v : Value} {d : DataW H} {p : List MemPlace} (ht : Try.prog.underlying t = some (.array 3 e)) (he : Try.prog.underlying e = some (.int .u16)) (hc : Try.prog.cellsOf e = 1) (hct : Try.prog.cellsOf t = 3)
    {b0 : Nat} (hv : Value.okWide Try.prog w .any b0 t v) (h : DataW.Trod enc Try.prog w 0 (fun _ => true) true t v d p) :
    ∃ a0 a1 a2 : Int, v = .agg #[.int .u16 a0, .int .u16 a1, .int .u16 a2] ∧ (0 ≤ a0 ∧ a0 ≤ 65535) ∧ (0 ≤ a1 ∧ a1 ≤ 65535) ∧ (0 ≤ a2 ∧ a2 ≤ 65535) := by
  obtain ⟨cs, rfl, hsz⟩ := okWide_array ht hv
  rw [hct] at hsz
  obtain ⟨l⟩ := cs
  match l, hsz with
  | [c0, c1, c2], _ =>
    obtain ⟨fuel, hf⟩ := h
    obtain ⟨xs, m, _, _, _, hlen, hi⟩ := DataW.trod_array ht hf
    have h0 := hi 0 (by omega)
    have h1 := hi 1 (by omega)
    have h2 := hi 2 (by omega)
    match xs, hlen with
    | [y0, y1, y2], _ =>
      simp [Value.cells, hc] at h0 h1 h2
      obtain ⟨s0, e0, _, m0⟩ := DataW.trod_int he h0
      obtain ⟨s1, e1, _, m1⟩ := DataW.trod_int he h1
      obtain ⟨s2, e2, _, m2⟩ := DataW.trod_int he h2
      simp only [List.cons.injEq, and_true] at e0 e1 e2
      refine ⟨s0, s1, s2, by rw [e0, e1, e2], ?_, ?_, ?_⟩
      · simpa [Lit.wf, IntKind.min, IntKind.max, IntKind.signed, IntKind.bits] using m0
      · simpa [Lit.wf, IntKind.min, IntKind.max, IntKind.signed, IntKind.bits] using m1
      · simpa [Lit.wf, IntKind.min, IntKind.max, IntKind.signed, IntKind.bits] using m2
end
theorem cellsU16 : Try.prog.cellsOf 22 = 1 := by kernel_rfl
theorem cellsU2 : Try.prog.cellsOf 23 = 2 := by kernel_rfl
theorem cellsU3 : Try.prog.cellsOf 36 = 3 := by kernel_rfl
end Go.Proofs.Ytmllbaacjodccaa
