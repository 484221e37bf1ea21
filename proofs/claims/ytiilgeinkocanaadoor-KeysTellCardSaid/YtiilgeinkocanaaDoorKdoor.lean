/- From the rows' listed variables to the tables that the contracts ask of the world. -/
import Derived.Test.YtiilgeinkocanaaDoorFrame
import Derived.Test.YtiilgeinkocanaaDoorCodes
import Derived.Test.YtiilgeinkocanaaDoorIn
import Derived.Test.YtiilgeinkocanaaDoorCards
import Derived.Test.YtiilgeinkocanaaDoorTie
import Derived.Lib.LaidU8
import Derived.PinnedBridge
import Derived.LaidMore
import Derived.Lay
import Derived.SevenTiedAt
import Derived.Stop.Joined
namespace Go.Proofs.YtiilgeinkocanaaDoor
open Go.ChangeShapes Go.WideShapes Go.ChangeAt Go.RowKit Go.Lib

/-- The rows' list of variables. -/
def laidList : List (String × DataW Unit) := [("unicode/utf8.acceptRanges", Rows.laid_unicode_utf8_acceptRanges), ("limner/widths.hidden", Rows.laid_limner_widths_hidden), ("limner/widths.wide", Rows.laid_limner_widths_wide), ("unicode/utf8.first", Rows.laid_unicode_utf8_first)]

theorem cellsRun : Tryd.prog.cellsOf 94 = 2 := by kernel_rfl
theorem cellsI32 : Tryd.prog.cellsOf 21 = 1 := by kernel_rfl
/-- A listed array of runs. -/
theorem runs_of_reads {W : World} {name : String} {g t n : Nat} {l : List (Int × Int)} (hn : Tryd.prog.globalNamed name = some g) (hy : (Tryd.prog.globals[g]?).map (·.type) = some t) (ht : Tryd.prog.underlying t = some (.array n 94)) (hln : l.length = n)
    (h : VarReads Tryd.prog W name (.agg (l.map fun p => .agg [.lit (.int .i32 p.1), .lit (.int .i32 p.2)]))) : RunsAt g l W := by
  obtain ⟨g', t', cs, fuel, p, hg, hty, hvar, hd⟩ := h
  obtain rfl := Option.some.inj (hn.symm.trans hg)
  obtain rfl := Option.some.inj (hy.symm.trans hty)
  intro j hj
  obtain ⟨fuel', d, q, hdi, he⟩ := array_elem ht hd j (by omega)
  simp only [List.getElem?_map, List.getElem?_eq_getElem hj, Option.map_some, Option.some.injEq] at hdi
  subst hdi
  rw [cellsRun] at he
  have hcs := ints_of_struct (k := .i32) (zs := [l[j].1, l[j].2]) Tryd.underlying94 (fun i f hf => by
    match i, hf with
    | 0, hf => simp at hf; subst hf; exact ⟨Tryd.underlying21, rfl, cellsI32⟩
    | 1, hf => simp at hf; subst hf; exact ⟨Tryd.underlying21, rfl, cellsI32⟩
    | i + 2, hf => simp at hf) (by rw [cellsRun]; rfl) he
  have e0 := congrArg (·[0]?) hcs
  have e1 := congrArg (·[1]?) hcs
  simp only [List.getElem?_take, List.getElem?_drop] at e0 e1
  rw [World.var?_cell hg hvar (j * 2), World.var?_cell hg hvar (j * 2 + 1), ← Array.getElem?_toList, ← Array.getElem?_toList]
  simp only [List.getElem?_eq_getElem hj, Option.getD_some]
  constructor
  · simpa using e0
  · simpa using e1

theorem hidType : (Tryd.prog.globals[0]?).map (·.type) = some 95 := by kernel_rfl
theorem widType : (Tryd.prog.globals[1]?).map (·.type) = some 96 := by kernel_rfl
theorem hidName : Tryd.prog.globalNamed "limner/widths.hidden" = some 0 := by kernel_rfl
theorem widName : Tryd.prog.globalNamed "limner/widths.wide" = some 1 := by kernel_rfl
theorem u8Extra : Go.Proofs.U8Extra Tryd.prog Tryd.lays260_ren := ⟨by kernel_rfl, by kernel_rfl, by kernel_rfl, by kernel_rfl, by kernel_rfl, by kernel_rfl, by kernel_rfl⟩
theorem acceptEq : (Rows.laid_unicode_utf8_acceptRanges : DataW Unit) = acceptData := by kernel_rfl
/-- What the rows' list gives. -/
theorem tabs_of_laid {W : World} (h : laidMetH Tryd.prog laidList W) : UTabs W ∧ WTabs W := by
  rw [MakeChecks.laidMetH_plain _ _ _ (by kernel_rfl)] at h
  have r1 := laidMet.reads h (n := "limner/widths.hidden") (d := Rows.laid_limner_widths_hidden) (by simp [laidList])
  have r2 := laidMet.reads h (n := "limner/widths.wide") (d := Rows.laid_limner_widths_wide) (by simp [laidList])
  have r3 := laidMet.reads h (n := "unicode/utf8.first") (d := Rows.laid_unicode_utf8_first) (by simp [laidList])
  have r4 := laidMet.reads h (n := "unicode/utf8.acceptRanges") (d := Rows.laid_unicode_utf8_acceptRanges) (by simp [laidList])
  rw [show (Rows.laid_unicode_utf8_first : DataW Unit) = firstData from Pinned.utf8First_eq] at r3
  rw [acceptEq] at r4
  exact ⟨Go.Proofs.utf8Tabs_of_reads Tryd.lays260 u8Extra r3 r4, runs_of_reads (l := hid) hidName hidType Tryd.underlying95 rfl r1, runs_of_reads (l := wid) widName widType Tryd.underlying96 rfl r2⟩
end Go.Proofs.YtiilgeinkocanaaDoor
