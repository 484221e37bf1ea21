/- Opening the arrays that come into the laws of Motions. -/
import Derived.Test.YtkmcfcpockpadaaDoorCdoor
import Derived.Test.YtkmcfcpockpadaaDoorOpenrow
namespace Go.Proofs.YtkmcfcpockpadaaDoor
open Go.ChangeShapes Go.WideShapes Go.ChangeAt Go.RowKit

theorem cellsByteM : Tryd.prog.cellsOf 5 = 1 := by kernel_rfl
theorem cellsB2M : Tryd.prog.cellsOf 28 = 2 := by kernel_rfl
theorem cellsIntM : Tryd.prog.cellsOf 3 = 1 := by kernel_rfl
theorem cellsI3M : Tryd.prog.cellsOf 22 = 3 := by kernel_rfl
section
variable {H : Type} {enc : TypeId × Value → H}
theorem open_b2 {w : World} {v : Value} {d : DataW H} {p : List MemPlace} {b0 : Nat} (hv : Value.okWide Tryd.prog w .any b0 28 v) (h : DataW.Trod enc Tryd.prog w 0 (fun _ => true) true 28 v d p) :
    ∃ x y : Int, v = .agg #[.int .u8 x, .int .u8 y] ∧ (0 ≤ x ∧ x ≤ 255) ∧ (0 ≤ y ∧ y ≤ 255) := by
  obtain ⟨cs, rfl, hsz⟩ := okWide_array Tryd.underlying28 hv
  rw [cellsB2M] at hsz
  obtain ⟨l⟩ := cs
  match l, hsz with
  | [c0, c1], _ =>
    obtain ⟨fuel, hf⟩ := h
    obtain ⟨xs, n, _, _, _, hlen, hi⟩ := DataW.trod_array Tryd.underlying28 hf
    match xs, hlen with
    | [y0, y1], _ =>
      have h0 := hi 0 (by omega)
      have h1 := hi 1 (by omega)
      simp [Value.cells, cellsByteM] at h0 h1
      obtain ⟨x, e0, _, m0⟩ := DataW.trod_int Tryd.underlying5 h0
      obtain ⟨y, e1, _, m1⟩ := DataW.trod_int Tryd.underlying5 h1
      simp only [List.cons.injEq, and_true] at e0 e1
      exact ⟨x, y, by rw [e0, e1], wfB m0, wfB m1⟩
theorem open_i3 {w : World} {v : Value} {d : DataW H} {p : List MemPlace} {b0 : Nat} (hv : Value.okWide Tryd.prog w .any b0 22 v) (h : DataW.Trod enc Tryd.prog w 0 (fun _ => true) true 22 v d p) :
    ∃ x y z : Int, v = .agg #[.int .i64 x, .int .i64 y, .int .i64 z] ∧ (-9223372036854775808 ≤ y ∧ y ≤ 9223372036854775807) := by
  obtain ⟨cs, rfl, hsz⟩ := okWide_array Tryd.underlying22 hv
  rw [cellsI3M] at hsz
  obtain ⟨l⟩ := cs
  match l, hsz with
  | [c0, c1, c2], _ =>
    obtain ⟨fuel, hf⟩ := h
    obtain ⟨xs, n, _, _, _, hlen, hi⟩ := DataW.trod_array Tryd.underlying22 hf
    match xs, hlen with
    | [y0, y1, y2], _ =>
      have h0 := hi 0 (by omega)
      have h1 := hi 1 (by omega)
      have h2 := hi 2 (by omega)
      simp [Value.cells, cellsIntM] at h0 h1 h2
      obtain ⟨x, e0, _, _⟩ := DataW.trod_int Tryd.underlying3 h0
      obtain ⟨y, e1, _, m1⟩ := DataW.trod_int Tryd.underlying3 h1
      obtain ⟨z, e2, _, _⟩ := DataW.trod_int Tryd.underlying3 h2
      simp only [List.cons.injEq, and_true] at e0 e1 e2
      exact ⟨x, y, z, by rw [e0, e1, e2], wfI m1⟩
end
end Go.Proofs.YtkmcfcpockpadaaDoor
