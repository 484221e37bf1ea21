/- Opening the acts that come into limnerlaw03.PiecesPlay. -/
import Derived.Test.YtmllbaacjodccaaOpenrow
import Derived.Test.YtmllbaacjodccaaQplay
namespace Go.Proofs.Ytmllbaacjodccaa
open Go.ChangeShapes Go.WideShapes Go.ChangeAt Go.RowKit

theorem cellsPA : Try.prog.cellsOf 45 = 4 := by kernel_rfl
theorem cellsPB : Try.prog.cellsOf 5 = 1 := by kernel_rfl
theorem cellsPI : Try.prog.cellsOf 3 = 1 := by kernel_rfl
theorem cellsPS : Try.prog.cellsOf 9 = 1 := by kernel_rfl
section
variable {H : Type} {enc : TypeId × Value → H}
theorem open_pacts {w : World} {v : Value} {d : DataW H} {p : List MemPlace} {b0 : Nat} (hv : Value.okWide Try.prog w .any b0 40 v) (h : DataW.Trod enc Try.prog w 0 (fun _ => true) true 40 v d p) :
    ∃ A cap l, v = .slice A l.length cap ∧ l.length ≤ cap ∧ cap ≤ maxLen ∧ RowOf w 4 pactCells A l ∧ ∀ x ∈ l, 0 ≤ x.1 ∧ x.1 ≤ 255 ∧ x.2.2.2.size ≤ maxLen := by
  obtain ⟨A, cap, l, rfl, h1, h2, h3, _, h4⟩ := open_rows (P := Try.prog) (α := Pact) 4 (by omega) pactCells (fun x => 0 ≤ x.1 ∧ x.1 ≤ 255 ∧ x.2.2.2.size ≤ maxLen) Try.underlying40 cellsPA (fun n cs x hl hf => by
    match cs, hl with
    | [c0, c1, c2, c3], _ =>
      obtain ⟨xs, n, _, _, _, hlen, hi⟩ := DataW.trod_struct Try.underlying45 hf
      match xs, hlen with
      | [y0, y1, y2, y3], _ =>
        have h0 := hi 0 _ rfl
        have h1 := hi 1 _ rfl
        have h2 := hi 2 _ rfl
        have h3 := hi 3 _ rfl
        simp [cellsPB, cellsPI, cellsPS] at h0 h1 h2 h3
        obtain ⟨a, e0, _, m0⟩ := DataW.trod_int Try.underlying5 h0
        obtain ⟨b, e1, _, _⟩ := DataW.trod_int Try.underlying3 h1
        obtain ⟨c, e2, _, _⟩ := DataW.trod_int Try.underlying3 h2
        obtain ⟨g, e3, _, m3⟩ := DataW.trod_string Try.underlying9 h3
        simp only [List.cons.injEq, and_true] at e0 e1 e2 e3
        exact ⟨(a, b, c, g), by simp [pactCells, e0, e1, e2, e3], (wfB m0).1, (wfB m0).2, m3⟩) hv h
  exact ⟨A, cap, l, rfl, h1, h2, h4, h3⟩
end
end Go.Proofs.Ytmllbaacjodccaa
