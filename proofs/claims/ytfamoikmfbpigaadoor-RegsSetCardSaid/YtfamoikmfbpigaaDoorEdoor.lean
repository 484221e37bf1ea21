/- From the rows' listed variable to the map of signs. -/
import Derived.Test.YtfamoikmfbpigaaDoorEsig
import Derived.Lib.LaidU8
import Derived.LaidMore
import Derived.Maps.OwnSet
namespace Go.Proofs.YtfamoikmfbpigaaDoor
open Go.RowKit Go.Lib Go.Maps Go.WideElems

theorem sigName : Tryd.prog.globalNamed "limner/regs.signs" = some 1 := by kernel_rfl
theorem sigType : (Tryd.prog.globals[1]?).map (·.type) = some 99 := by kernel_rfl
theorem sgr_of_laid {W : World} {l : List (String × DataW Unit)} (h : laidMet Tryd.prog l W) (hm : ("limner/regs.signs", Rows.laid_limner_regs_signs) ∈ l) : ∃ r, SGr r W := by
  have hr := laidMet.reads h (n := "limner/regs.signs") (d := Rows.laid_limner_regs_signs) hm
  obtain ⟨g', t', cs, fuel, p, hg, hty, hvar, hd⟩ := hr
  obtain rfl := Option.some.inj (sigName.symm.trans hg)
  obtain rfl := Option.some.inj (sigType.symm.trans hty)
  rcases WideElems.open_map Tryd.underlying99 hd with ⟨_, hx⟩ | ⟨bm, es, clock, m, -, hcs, hb, _, F, hx⟩
  · have := congrArg Prod.fst hx
    simp [Rows.laid_limner_regs_signs] at this
  · have hx1 := congrArg Prod.fst hx
    dsimp only at hx1
    have hlen := congrArg (fun d : DataW Unit => match d with | .map l => l.length | _ => 0) hx1
    dsimp only at hlen
    rw [length_read] at hlen
    have h3 : es.size = 3 := hlen.symm
    have hown := World.ownsMap_of_fit (R := plainElem Tryd.prog 3) hb F (fun x _ z hz => elemAt_plainElem_int Tryd.underlying3 hz)
    rw [h3, ← hx1] at hown
    refine ⟨bm, ?_, hown⟩
    have := World.var?_cell hg hvar 0
    rw [Array.eq_one_of_toList hcs] at this
    simpa using this
end Go.Proofs.YtfamoikmfbpigaaDoor
