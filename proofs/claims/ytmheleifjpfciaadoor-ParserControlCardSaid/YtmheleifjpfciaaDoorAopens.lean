/- Opening the parts that come into the laws of Parser. -/
import Derived.Test.YtmheleifjpfciaaDoorCdoor
import Derived.Test.YtmheleifjpfciaaDoorAparts
namespace Go.Proofs.YtmheleifjpfciaaDoor
open Go.ChangeShapes Go.WideShapes Go.ChangeAt Go.RowKit

theorem cellsPart : Tryd.prog.cellsOf 42 = 4 := by kernel_rfl
theorem cellsPB : Tryd.prog.cellsOf 5 = 1 := by kernel_rfl
theorem cellsPI : Tryd.prog.cellsOf 3 = 1 := by kernel_rfl
theorem cellsPR : Tryd.prog.cellsOf 21 = 1 := by kernel_rfl
theorem cellsPS : Tryd.prog.cellsOf 32 = 1 := by kernel_rfl
section
variable {H : Type} {enc : TypeId × Value → H}
theorem part_of {w : World} {n : Nat} {cs : List Value} {x : DataW H × List MemPlace} (hl : cs.length = 4) (hf : DataW.trod enc Tryd.prog w 0 (fun _ => true) true n 42 cs = some x) :
    ∃ y : PV, cs = pvCells y ∧ PtOk y.1 ∧ PsAt w y.2 y.1.ps := by
  match cs, hl with
  | [c0, c1, c2, c3], _ =>
    obtain ⟨xs, n, _, _, _, hlen, hi⟩ := DataW.trod_struct Tryd.underlying42 hf
    match xs, hlen with
    | [y0, y1, y2, y3], _ =>
      have h0 := hi 0 _ rfl
      have h1 := hi 1 _ rfl
      have h2 := hi 2 _ rfl
      have h3 := hi 3 _ rfl
      simp [cellsPB, cellsPR, cellsPS] at h0 h1 h2 h3
      obtain ⟨a, e0, _, m0⟩ := DataW.trod_int Tryd.underlying5 h0
      obtain ⟨b, e1, _, m1⟩ := DataW.trod_int Tryd.underlying21 h1
      obtain ⟨c, e2, _, m2⟩ := DataW.trod_int Tryd.underlying5 h2
      obtain ⟨A, cap, l, e3, g1, g2, g3, g4, g5⟩ := rows_of_cells (P := Tryd.prog) (α := Int) 1 (by omega) (fun x => [Value.int .i64 x]) (fun x => -9223372036854775808 ≤ x ∧ x ≤ 9223372036854775807) Tryd.underlying32 cellsPI (fun n cs x hl hf => by
        obtain ⟨m, e, _, mm⟩ := DataW.trod_int Tryd.underlying3 hf
        exact ⟨m, e, wfI mm⟩) h3
      simp only [List.cons.injEq, and_true] at e0 e1 e2 e3
      exact ⟨(⟨a, b, c, l⟩, .slice A l.length cap), by simp [pvCells, e0, e1, e2, e3], ⟨wfB m0, wfB m2, wfR m1, g3⟩, A, cap, rfl, g1, g2, g5⟩
theorem open_parts {w : World} {v : Value} {d : DataW H} {p : List MemPlace} {b0 : Nat} (hv : Value.okWide Tryd.prog w .any b0 39 v) (h : DataW.Trod enc Tryd.prog w 0 (fun _ => true) true 39 v d p) :
    ∃ A cap l, v = .slice A l.length cap ∧ l.length ≤ cap ∧ cap ≤ maxLen ∧ (∀ x ∈ l, PtOk x.1 ∧ PsAt w x.2 x.1.ps) ∧ RowOf w 4 pvCells A l := by
  obtain ⟨A, cap, l, rfl, h1, h2, h3, _, h4⟩ := open_rows (P := Tryd.prog) 4 (by omega) pvCells (fun x => PtOk x.1 ∧ PsAt w x.2 x.1.ps) Tryd.underlying39 cellsPart (fun n cs x hl hf => part_of hl hf) hv h
  exact ⟨A, cap, l, rfl, h1, h2, h3, h4⟩
theorem open_part {w : World} {v : Value} {d : DataW H} {p : List MemPlace} {b0 : Nat} (hv : Value.okWide Tryd.prog w .any b0 42 v) (h : DataW.Trod enc Tryd.prog w 0 (fun _ => true) true 42 v d p) :
    ∃ (k r n : Int) (ps : List Int) (pv : Value), v = .agg #[.int .u8 k, .int .i32 r, .int .u8 n, pv] ∧ PtOk ⟨k, r, n, ps⟩ ∧ PsAt w pv ps := by
  obtain ⟨cs, rfl, hsz⟩ := okWide_structP Tryd.underlying42 hv
  rw [cellsPart] at hsz
  obtain ⟨fuel, hf⟩ := h
  obtain ⟨⟨⟨k, r, n, ps⟩, pv⟩, e, h1, h2⟩ := part_of (cs := cs.toList) (by rw [Array.length_toList]; exact hsz) hf
  refine ⟨k, r, n, ps, pv, ?_, h1, h2⟩
  congr 1
  exact Array.toList_inj.1 (by rw [e]; rfl)
end
end Go.Proofs.YtmheleifjpfciaaDoor
