/- Opening the acts that come into the laws of Keys. -/
import Derived.Test.YtiilgeinkocanaaDoorKdoor
import Derived.Test.YtiilgeinkocanaaDoorOpenrow
import Derived.Test.YtiilgeinkocanaaDoorKboth
namespace Go.Proofs.YtiilgeinkocanaaDoor
open Go.ChangeShapes Go.WideShapes Go.ChangeAt Go.RowKit

theorem cellsKA : Tryd.prog.cellsOf 38 = 2 := by kernel_rfl
theorem cellsKS : Tryd.prog.cellsOf 9 = 1 := by kernel_rfl
theorem cellsKB : Tryd.prog.cellsOf 4 = 1 := by kernel_rfl
section
variable {H : Type} {enc : TypeId × Value → H}
theorem act_of {w : World} {n : Nat} {cs : List Value} {x : DataW H × List MemPlace} (hl : cs.length = 2) (hf : DataW.trod enc Tryd.prog w 0 (fun _ => true) true n 38 cs = some x) :
    ∃ y : Kact, cs = actCells y ∧ y.1.size ≤ maxLen := by
  match cs, hl with
  | [c0, c1], _ =>
    obtain ⟨xs, n, _, _, _, hlen, hi⟩ := DataW.trod_struct Tryd.underlying38 hf
    match xs, hlen with
    | [y0, y1], _ =>
      have h0 := hi 0 _ rfl
      have h1 := hi 1 _ rfl
      simp [cellsKS, cellsKB] at h0 h1
      obtain ⟨a, e0, _, m0⟩ := DataW.trod_string Tryd.underlying9 h0
      obtain ⟨b, e1, _⟩ := DataW.trod_bool Tryd.underlying4 h1
      simp only [List.cons.injEq, and_true] at e0 e1
      exact ⟨(a, b), by simp [actCells, e0, e1], m0⟩
set_option maxRecDepth 100000 in
theorem open_act {w : World} {v : Value} {d : DataW H} {p : List MemPlace} {b0 : Nat} (hv : Value.okWide Tryd.prog w .any b0 38 v) (h : DataW.Trod enc Tryd.prog w 0 (fun _ => true) true 38 v d p) :
    ∃ (s : ByteArray) (b : Bool), v = .agg #[.string s, .bool b] ∧ s.size ≤ maxLen := by
  obtain ⟨cs, rfl, hsz⟩ := okWide_structP Tryd.underlying38 hv
  rw [cellsKA] at hsz
  obtain ⟨fuel, hf⟩ := h
  obtain ⟨⟨s, b⟩, e, h1⟩ := act_of (cs := cs.toList) (by rw [Array.length_toList]; exact hsz) hf
  exact ⟨s, b, by congr 1; exact Array.toList_inj.1 (by rw [e]; rfl), h1⟩
set_option maxRecDepth 100000 in
theorem open_acts {w : World} {v : Value} {d : DataW H} {p : List MemPlace} {b0 : Nat} (hv : Value.okWide Tryd.prog w .any b0 29 v) (h : DataW.Trod enc Tryd.prog w 0 (fun _ => true) true 29 v d p) :
    ∃ A cap l, v = .slice A l.length cap ∧ l.length ≤ cap ∧ cap ≤ maxLen ∧ RowOf w 2 actCells A l := by
  obtain ⟨A, cap, l, rfl, h1, h2, h3, _, h4⟩ := open_rows (P := Tryd.prog) (α := Kact) 2 (by omega) actCells (fun y => y.1.size ≤ maxLen) Tryd.underlying29 cellsKA (fun n cs x hl hf => act_of hl hf) hv h
  exact ⟨A, cap, l, rfl, h1, h2, h4⟩
end
end Go.Proofs.YtiilgeinkocanaaDoor
