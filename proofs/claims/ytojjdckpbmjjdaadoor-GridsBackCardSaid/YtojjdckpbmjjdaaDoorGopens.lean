/- Opening what comes into the laws of Grids: frames, painted frames, inks, two small numbers. -/
import Derived.Test.YtojjdckpbmjjdaaDoorGlaw
namespace Go.Proofs.YtojjdckpbmjjdaaDoor
open Go.ChangeShapes Go.WideShapes Go.ChangeAt Go.RowKit

theorem cellsGI : Tryd.prog.cellsOf 3 = 1 := by kernel_rfl
theorem cellsGR : Tryd.prog.cellsOf 21 = 1 := by kernel_rfl
theorem cellsGB : Tryd.prog.cellsOf 4 = 1 := by kernel_rfl
theorem cellsGU : Tryd.prog.cellsOf 5 = 1 := by kernel_rfl
theorem cellsGS : Tryd.prog.cellsOf 35 = 4 := by kernel_rfl
theorem cellsGC : Tryd.prog.cellsOf 52 = 6 := by kernel_rfl
theorem cellsGF : Tryd.prog.cellsOf 28 = 5 := by kernel_rfl
theorem cellsGL : Tryd.prog.cellsOf 26 = 1 := by kernel_rfl
theorem cellsGK : Tryd.prog.cellsOf 37 = 7 := by kernel_rfl
theorem cellsGN : Tryd.prog.cellsOf 22 = 1 := by kernel_rfl
theorem cellsGP : Tryd.prog.cellsOf 24 = 5 := by kernel_rfl
theorem cellsG2 : Tryd.prog.cellsOf 49 = 2 := by kernel_rfl
section
variable {H : Type} {enc : TypeId × Value → H}
theorem sty_of {w : World} {n : Nat} {c0 c1 c2 c3 : Value} {x : DataW H × List MemPlace} (hf : DataW.trod enc Tryd.prog w 0 (fun _ => true) true n 35 [c0, c1, c2, c3] = some x) :
    ∃ (fg : Int) (bo un iv : Bool), c0 = .int .i64 fg ∧ c1 = .bool bo ∧ c2 = .bool un ∧ c3 = .bool iv := by
  obtain ⟨xs, n, _, _, _, hlen, hi⟩ := DataW.trod_struct Tryd.underlying35 hf
  match xs, hlen with
  | [y0, y1, y2, y3], _ =>
    have h0 := hi 0 _ rfl
    have h1 := hi 1 _ rfl
    have h2 := hi 2 _ rfl
    have h3 := hi 3 _ rfl
    simp [cellsGI, cellsGB] at h0 h1 h2 h3
    obtain ⟨a, e0, _, _⟩ := DataW.trod_int Tryd.underlying3 h0
    obtain ⟨b, e1, _⟩ := DataW.trod_bool Tryd.underlying4 h1
    obtain ⟨c, e2, _⟩ := DataW.trod_bool Tryd.underlying4 h2
    obtain ⟨d, e3, _⟩ := DataW.trod_bool Tryd.underlying4 h3
    simp only [List.cons.injEq, and_true] at e0 e1 e2 e3
    exact ⟨a, b, c, d, e0, e1, e2, e3⟩
theorem cell_of {w : World} {n : Nat} {cs : List Value} {x : DataW H × List MemPlace} (hl : cs.length = 6) (hf : DataW.trod enc Tryd.prog w 0 (fun _ => true) true n 52 cs = some x) :
    ∃ y : Cl, cs = clCells y ∧ True := by
  match cs, hl with
  | [c0, c1, c2, c3, c4, c5], _ =>
    obtain ⟨xs, n, _, _, _, hlen, hi⟩ := DataW.trod_struct Tryd.underlying52 hf
    match xs, hlen with
    | [y0, y1, y2], _ =>
      have h0 := hi 0 _ rfl
      have h1 := hi 1 _ rfl
      have h2 := hi 2 _ rfl
      simp [cellsGR, cellsGI, cellsGS] at h0 h1 h2
      obtain ⟨a, e0, _, _⟩ := DataW.trod_int Tryd.underlying21 h0
      obtain ⟨b, e1, _, _⟩ := DataW.trod_int Tryd.underlying3 h1
      obtain ⟨fg, bo, un, iv, e2, e3, e4, e5⟩ := sty_of h2
      simp only [List.cons.injEq, and_true] at e0 e1
      exact ⟨⟨a, b, fg, bo, un, iv⟩, by simp [clCells, e0, e1, e2, e3, e4, e5], trivial⟩
theorem ik_of {w : World} {n : Nat} {cs : List Value} {x : DataW H × List MemPlace} (hl : cs.length = 7) (hf : DataW.trod enc Tryd.prog w 0 (fun _ => true) true n 37 cs = some x) :
    ∃ y : Ik, cs = ikCells y ∧ True := by
  match cs, hl with
  | [c0, c1, c2, c3, c4, c5, c6], _ =>
    obtain ⟨xs, n, _, _, _, hlen, hi⟩ := DataW.trod_struct Tryd.underlying37 hf
    match xs, hlen with
    | [y0, y1, y2, y3], _ =>
      have h0 := hi 0 _ rfl
      have h1 := hi 1 _ rfl
      have h2 := hi 2 _ rfl
      have h3 := hi 3 _ rfl
      simp [cellsGR, cellsGI, cellsGS] at h0 h1 h2 h3
      obtain ⟨a, e0, _, _⟩ := DataW.trod_int Tryd.underlying3 h0
      obtain ⟨b, e1, _, _⟩ := DataW.trod_int Tryd.underlying3 h1
      obtain ⟨c, e2, _, _⟩ := DataW.trod_int Tryd.underlying21 h2
      obtain ⟨fg, bo, un, iv, e3, e4, e5, e6⟩ := sty_of h3
      simp only [List.cons.injEq, and_true] at e0 e1 e2
      exact ⟨⟨a, b, c, fg, bo, un, iv⟩, by simp [ikCells, e0, e1, e2, e3, e4, e5, e6], trivial⟩
theorem open_ink {w : World} {v : Value} {d : DataW H} {p : List MemPlace} {b0 : Nat} (hv : Value.okWide Tryd.prog w .any b0 37 v) (h : DataW.Trod enc Tryd.prog w 0 (fun _ => true) true 37 v d p) :
    ∃ y : Ik, v = .agg (ikCells y).toArray := by
  obtain ⟨cs, rfl, hsz⟩ := okWide_structP Tryd.underlying37 hv
  rw [cellsGK] at hsz
  obtain ⟨fuel, hf⟩ := h
  obtain ⟨y, e, -⟩ := ik_of (cs := cs.toList) (by rw [Array.length_toList]; exact hsz) hf
  refine ⟨y, ?_⟩
  congr 1
  exact Array.toList_inj.1 (by rw [e])
theorem open_painted {w : World} {v : Value} {d : DataW H} {p : List MemPlace} {b0 : Nat} (hv : Value.okWide Tryd.prog w .any b0 24 v) (h : DataW.Trod enc Tryd.prog w 0 (fun _ => true) true 24 v d p) :
    ∃ y : Pt, PtAt w v y := by
  obtain ⟨cs, rfl, hsz⟩ := okWide_structP Tryd.underlying24 hv
  rw [cellsGP] at hsz
  obtain ⟨fuel, hf⟩ := h
  obtain ⟨l⟩ := cs
  match l, hsz with
  | [c0, c1, c2, c3, c4], _ =>
    obtain ⟨xs, n, _, _, _, hlen, hi⟩ := DataW.trod_struct Tryd.underlying24 hf
    match xs, hlen with
    | [y0, y1, y2, y3, y4], _ =>
      have h0 := hi 0 _ rfl
      have h1 := hi 1 _ rfl
      have h2 := hi 2 _ rfl
      have h3 := hi 3 _ rfl
      have h4 := hi 4 _ rfl
      simp [Value.cells, cellsGI, cellsGN] at h0 h1 h2 h3 h4
      obtain ⟨a, e0, _, _⟩ := DataW.trod_int Tryd.underlying3 h0
      obtain ⟨b, e1, _, _⟩ := DataW.trod_int Tryd.underlying3 h1
      obtain ⟨A, cap, l, e2, g1, g2, -, -, g5⟩ := rows_of_cells (P := Tryd.prog) (α := Ik) 7 (by omega) ikCells (fun _ => True) Tryd.underlying22 cellsGK (fun n cs x hl hf => ik_of hl hf) h2
      obtain ⟨r, e3, _, _⟩ := DataW.trod_int Tryd.underlying3 h3
      obtain ⟨c, e4, _, _⟩ := DataW.trod_int Tryd.underlying3 h4
      simp only [List.cons.injEq, and_true] at e0 e1 e2 e3 e4
      exact ⟨⟨a, b, l, r, c⟩, A, cap, by rw [e0, e1, e2, e3, e4]; rfl, g1, g2, g5⟩
theorem open_frame {w : World} {v : Value} {d : DataW H} {p : List MemPlace} {b0 : Nat} (hv : Value.okWide Tryd.prog w .any b0 28 v) (h : DataW.Trod enc Tryd.prog w 0 (fun _ => true) true 28 v d p) :
    ∃ y : Fr, FrAt w v y := by
  obtain ⟨cs, rfl, hsz⟩ := okWide_structP Tryd.underlying28 hv
  rw [cellsGF] at hsz
  obtain ⟨fuel, hf⟩ := h
  obtain ⟨l⟩ := cs
  match l, hsz with
  | [c0, c1, c2, c3, c4], _ =>
    obtain ⟨xs, n, _, _, _, hlen, hi⟩ := DataW.trod_struct Tryd.underlying28 hf
    match xs, hlen with
    | [y0, y1, y2, y3, y4], _ =>
      have h0 := hi 0 _ rfl
      have h1 := hi 1 _ rfl
      have h2 := hi 2 _ rfl
      have h3 := hi 3 _ rfl
      have h4 := hi 4 _ rfl
      simp [Value.cells, cellsGI, cellsGL] at h0 h1 h2 h3 h4
      obtain ⟨a, e0, _, _⟩ := DataW.trod_int Tryd.underlying3 h0
      obtain ⟨b, e1, _, _⟩ := DataW.trod_int Tryd.underlying3 h1
      obtain ⟨A, cap, l, e2, g1, g2, -, -, g5⟩ := rows_of_cells (P := Tryd.prog) (α := Cl) 6 (by omega) clCells (fun _ => True) Tryd.underlying26 cellsGC (fun n cs x hl hf => cell_of hl hf) h2
      obtain ⟨r, e3, _, _⟩ := DataW.trod_int Tryd.underlying3 h3
      obtain ⟨c, e4, _, _⟩ := DataW.trod_int Tryd.underlying3 h4
      simp only [List.cons.injEq, and_true] at e0 e1 e2 e3 e4
      exact ⟨⟨a, b, l, r, c⟩, A, cap, by rw [e0, e1, e2, e3, e4]; rfl, g1, g2, g5⟩
theorem open_b2 {w : World} {v : Value} {d : DataW H} {p : List MemPlace} {b0 : Nat} (hv : Value.okWide Tryd.prog w .any b0 49 v) (h : DataW.Trod enc Tryd.prog w 0 (fun _ => true) true 49 v d p) :
    ∃ x y : Int, v = .agg #[.int .u8 x, .int .u8 y] ∧ (0 ≤ x ∧ x ≤ 255) ∧ (0 ≤ y ∧ y ≤ 255) := by
  obtain ⟨cs, rfl, hsz⟩ := okWide_array Tryd.underlying49 hv
  rw [cellsG2] at hsz
  obtain ⟨l⟩ := cs
  match l, hsz with
  | [c0, c1], _ =>
    obtain ⟨fuel, hf⟩ := h
    obtain ⟨xs, n, _, _, _, hlen, hi⟩ := DataW.trod_array Tryd.underlying49 hf
    match xs, hlen with
    | [y0, y1], _ =>
      have h0 := hi 0 (by omega)
      have h1 := hi 1 (by omega)
      simp [Value.cells, cellsGU] at h0 h1
      obtain ⟨x, e0, _, m0⟩ := DataW.trod_int Tryd.underlying5 h0
      obtain ⟨y, e1, _, m1⟩ := DataW.trod_int Tryd.underlying5 h1
      simp only [List.cons.injEq, and_true] at e0 e1
      exact ⟨x, y, by rw [e0, e1], wfB m0, wfB m1⟩
end
end Go.Proofs.YtojjdckpbmjjdaaDoor
