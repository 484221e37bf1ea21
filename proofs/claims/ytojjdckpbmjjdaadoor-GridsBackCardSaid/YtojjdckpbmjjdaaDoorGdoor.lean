/- From the rows' listed variables to the tables that the contracts ask of the world. -/
import Derived.Test.YtojjdckpbmjjdaaDoorGopens
import Derived.Test.YtojjdckpbmjjdaaDoorFrame
import Derived.Test.YtojjdckpbmjjdaaDoorIn

import Derived.Test.YtojjdckpbmjjdaaDoorCards
import Derived.Test.YtojjdckpbmjjdaaDoorTie


import Derived.Lib.LaidU8
import Derived.LaidMore
import Derived.Lay
import Derived.SevenTiedAt
import Derived.Stop.Joined
namespace Go.Proofs.YtojjdckpbmjjdaaDoor
open Go.ChangeShapes Go.WideShapes Go.ChangeAt Go.RowKit Go.Lib

/-- The rows' list of variables. -/
def laidList : List (String × DataW Unit) := [("limner/widths.hidden", Rows.laid_limner_widths_hidden), ("limner/widths.wide", Rows.laid_limner_widths_wide), ("limner/grids.blank", Rows.laid_limner_grids_blank)]

theorem cellsRun : Tryd.prog.cellsOf 79 = 2 := by kernel_rfl
theorem cellsI32 : Tryd.prog.cellsOf 21 = 1 := by kernel_rfl
/-- A listed array of runs. -/
theorem runs_of_reads {W : World} {name : String} {g t n : Nat} {l : List (Int × Int)} (hn : Tryd.prog.globalNamed name = some g) (hy : (Tryd.prog.globals[g]?).map (·.type) = some t) (ht : Tryd.prog.underlying t = some (.array n 79)) (hln : l.length = n)
    (h : VarReads Tryd.prog W name (.agg (l.map fun p => .agg [.lit (.int .i32 p.1), .lit (.int .i32 p.2)]))) : RunsAt g l W := by
  obtain ⟨g', t', cs, fuel, p, hg, hty, hvar, hd⟩ := h
  obtain rfl := Option.some.inj (hn.symm.trans hg)
  obtain rfl := Option.some.inj (hy.symm.trans hty)
  intro j hj
  obtain ⟨fuel', d, q, hdi, he⟩ := array_elem ht hd j (by omega)
  simp only [List.getElem?_map, List.getElem?_eq_getElem hj, Option.map_some, Option.some.injEq] at hdi
  subst hdi
  rw [cellsRun] at he
  have hcs := ints_of_struct (k := .i32) (zs := [l[j].1, l[j].2]) Tryd.underlying79 (fun i f hf => by
    match i, hf with
    | 0, hf => simp at hf; subst hf; exact ⟨Tryd.underlying21, rfl, cellsI32⟩
    | 1, hf => simp at hf; subst hf; exact ⟨Tryd.underlying21, rfl, cellsI32⟩
    | i + 2, hf => simp at hf) (by rw [cellsRun]; rfl) he
  have e0 := congrArg (·[0]?) hcs
  have e1 := congrArg (·[1]?) hcs
  simp only [List.getElem?_take, List.getElem?_drop] at e0 e1
  rw [World.var?_cell hg hvar (j * 2), World.var?_cell hg hvar (j * 2 + 1), ← Array.getElem?_toList, ← Array.getElem?_toList]
  simp only [List.getElem?_eq_getElem hj, Option.getD_some]
  constructor
  · simpa using e0
  · simpa using e1

theorem hidType : (Tryd.prog.globals[1]?).map (·.type) = some 80 := by kernel_rfl
theorem widType : (Tryd.prog.globals[2]?).map (·.type) = some 81 := by kernel_rfl
theorem hidName : Tryd.prog.globalNamed "limner/widths.hidden" = some 1 := by kernel_rfl
theorem widName : Tryd.prog.globalNamed "limner/widths.wide" = some 2 := by kernel_rfl
theorem blkType : (Tryd.prog.globals[0]?).map (·.type) = some 52 := by kernel_rfl
theorem blkName : Tryd.prog.globalNamed "limner/grids.blank" = some 0 := by kernel_rfl
/-- The blank, as it is listed. -/
theorem blank_of_reads {W : World} (h : VarReads Tryd.prog W "limner/grids.blank" (.agg [.lit (.int .i32 32), .lit (.int .i64 1), .agg [.lit (.int .i64 0), .lit (.bool false), .lit (.bool false), .lit (.bool false)]])) : BTab W := by
  obtain ⟨g', t', cs, fuel, p, hg, hty, hvar, hd⟩ := h
  obtain rfl := Option.some.inj (blkName.symm.trans hg)
  obtain rfl := Option.some.inj (blkType.symm.trans hty)
  obtain ⟨l⟩ := cs
  obtain ⟨xs, n, -, hx, hl, hlen, hi⟩ := DataW.trod_struct Tryd.underlying52 hd
  rw [cellsGC] at hl
  match l, hl with
  | [c0, c1, c2, c3, c4, c5], _ =>
    match xs, hlen with
    | [y0, y1, y2], _ =>
      simp only [Prod.mk.injEq, List.map_cons, List.map_nil, DataW.agg.injEq, List.cons.injEq, and_true] at hx
      obtain ⟨⟨d0, d1, d2⟩, -⟩ := hx
      have h0 := hi 0 _ rfl
      have h1 := hi 1 _ rfl
      have h2 := hi 2 _ rfl
      simp [cellsGR, cellsGI, cellsGS] at h0 h1 h2
      obtain ⟨a, e0, f0, _⟩ := DataW.trod_int Tryd.underlying21 h0
      obtain ⟨b, e1, f1, _⟩ := DataW.trod_int Tryd.underlying3 h1
      obtain ⟨zs, n, -, hz, -, hzl, hj⟩ := DataW.trod_struct Tryd.underlying35 h2
      match zs, hzl with
      | [z0, z1, z2, z3], _ =>
        have j0 := hj 0 _ rfl
        have j1 := hj 1 _ rfl
        have j2 := hj 2 _ rfl
        have j3 := hj 3 _ rfl
        simp [cellsGI, cellsGB] at j0 j1 j2 j3
        obtain ⟨a0, k0, g0, _⟩ := DataW.trod_int Tryd.underlying3 j0
        obtain ⟨a1, k1, g1⟩ := DataW.trod_bool Tryd.underlying4 j1
        obtain ⟨a2, k2, g2⟩ := DataW.trod_bool Tryd.underlying4 j2
        obtain ⟨a3, k3, g3⟩ := DataW.trod_bool Tryd.underlying4 j3
        subst f0 f1 hz g0 g1 g2 g3
        simp at d0 d1 d2 e0 e1 k0 k1 k2 k3
        obtain ⟨rfl, rfl, rfl, rfl⟩ := d2
        subst d0 d1 e0 e1 k0 k1 k2 k3
        have hc := fun k => World.var?_cell hg hvar k
        exact ⟨by rw [hc]; rfl, by rw [hc]; rfl, by rw [hc]; rfl, by rw [hc]; rfl, by rw [hc]; rfl, by rw [hc]; rfl⟩
/-- What the rows' list gives. -/
theorem tabs_of_laid {W : World} (h : laidMetH Tryd.prog laidList W) : WTabs W ∧ BTab W := by
  rw [MakeChecks.laidMetH_plain _ _ _ (by kernel_rfl)] at h
  have r1 := laidMet.reads h (n := "limner/widths.hidden") (d := Rows.laid_limner_widths_hidden) (by simp [laidList])
  have r2 := laidMet.reads h (n := "limner/widths.wide") (d := Rows.laid_limner_widths_wide) (by simp [laidList])
  have r3 := laidMet.reads h (n := "limner/grids.blank") (d := Rows.laid_limner_grids_blank) (by simp [laidList])
  exact ⟨⟨runs_of_reads (l := hid) hidName hidType Tryd.underlying80 rfl r1, runs_of_reads (l := wid) widName widType Tryd.underlying81 rfl r2⟩, blank_of_reads r3⟩
end Go.Proofs.YtojjdckpbmjjdaaDoor
