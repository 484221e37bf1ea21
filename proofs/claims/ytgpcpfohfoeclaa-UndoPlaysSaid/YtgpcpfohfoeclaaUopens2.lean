/- Opening a slice of acts that came in. -/
import Derived.Test.YtgpcpfohfoeclaaOpenrow
import Derived.Test.YtgpcpfohfoeclaaUplay
namespace Go.Proofs.Ytgpcpfohfoeclaa
open Go.ChangeShapes Go.WideShapes Go.ChangeAt Go.RowKit

theorem cellsAct : Try.prog.cellsOf 41 = 4 := by kernel_rfl
theorem cellsActB : Try.prog.cellsOf 5 = 1 := by kernel_rfl
theorem cellsActI : Try.prog.cellsOf 3 = 1 := by kernel_rfl
def actCells (x : Int × Int × Int × Int) : List Value := [.int .u8 x.1, .int .u8 x.2.1, .int .i64 x.2.2.1, .int .i64 x.2.2.2]
section
variable {H : Type} {enc : TypeId × Value → H}
theorem open_acts {w : World} {v : Value} {d : DataW H} {p : List MemPlace} {b0 : Nat} (hv : Value.okWide Try.prog w .any b0 37 v) (h : DataW.Trod enc Try.prog w 0 (fun _ => true) true 37 v d p) : ∃ l, Acts w v l := by
  obtain ⟨A, cap, l, rfl, h1, h2, h3, _, h4⟩ := open_rows (P := Try.prog) 4 (by omega) actCells (fun x => (0 ≤ x.1 ∧ x.1 ≤ 255) ∧ 0 ≤ x.2.1 ∧ x.2.1 ≤ 255) Try.underlying37 cellsAct (fun n cs x hl hf => by
    match cs, hl with
    | [c0, c1, c2, c3], _ =>
      obtain ⟨xs, n, _, _, _, hlen, hi⟩ := DataW.trod_struct Try.underlying41 hf
      match xs, hlen with
      | [y0, y1, y2, y3], _ =>
        have h0 := hi 0 _ rfl
        have h1 := hi 1 _ rfl
        have h2 := hi 2 _ rfl
        have h3 := hi 3 _ rfl
        simp [cellsActB, cellsActI] at h0 h1 h2 h3
        obtain ⟨a, e0, _, m0⟩ := DataW.trod_int Try.underlying5 h0
        obtain ⟨b, e1, _, m1⟩ := DataW.trod_int Try.underlying5 h1
        obtain ⟨c, e2, _, _⟩ := DataW.trod_int Try.underlying3 h2
        obtain ⟨g, e3, _, _⟩ := DataW.trod_int Try.underlying3 h3
        simp only [List.cons.injEq, and_true] at e0 e1 e2 e3
        exact ⟨(a, b, c, g), by simp [actCells, e0, e1, e2, e3], wfB m0, wfB m1⟩) hv h
  refine ⟨l, A, cap, rfl, by omega, fun j x hx => ?_⟩
  obtain ⟨b, o, e, hb, hc⟩ := h4 j x hx
  exact ⟨b, o, e, hb, hc 0 _ rfl, hc 1 _ rfl, hc 2 _ rfl, hc 3 _ rfl, h3 x (List.mem_of_getElem? hx)⟩
end
end Go.Proofs.Ytgpcpfohfoeclaa
