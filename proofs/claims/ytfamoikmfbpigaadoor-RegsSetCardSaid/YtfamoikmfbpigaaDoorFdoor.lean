/- Regs: the rows' list, and a world that meets it. -/
import Derived.Test.YtfamoikmfbpigaaDoorEdoor
import Derived.Test.YtfamoikmfbpigaaDoorCards
import Derived.Test.YtfamoikmfbpigaaDoorTie
import Derived.Test.YtfamoikmfbpigaaDoorFopen
import Derived.PinnedBridge
import Derived.LaidMore
import Derived.Lay
import Derived.SevenTiedAt
import Derived.Stop.Joined
import Derived.Deep.Strs
import Derived.Handed
namespace Go.Proofs.YtfamoikmfbpigaaDoor
open Go.ChangeShapes Go.WideShapes Go.ChangeAt Go.RowKit Go.Lib

def laidF : List (String × DataW Unit) := [("limner/regs.signs", Rows.laid_limner_regs_signs)]
set_option maxRecDepth 100000 in
theorem door_metF (os : Os) (args : Array Value) : laidMetH Tryd.prog laidF ((World.doorLaid Tryd.prog 400 os).forCall (fun _ _ => 0) ⟨#[], args, []⟩).memory :=
  laidMetH_of_parts3 (fuel := 8) (laidMet_of_run' 8 (by kernel_rfl) (by kernel_rfl)) (by kernel_rfl) (by kernel_rfl)
set_option maxRecDepth 100000 in
theorem sgr_of_met {W : World} (h : laidMetH Tryd.prog laidF W) : ∃ r, SGr r W := by
  rw [MakeChecks.laidMetH_plain _ _ _ (by kernel_rfl)] at h
  exact sgr_of_laid h (by simp [laidF])
set_option maxRecDepth 100000 in
/-- A byte that comes in. -/
theorem open_u8 {H : Type} {enc : TypeId × Value → H} {w : World} {v : Value} {d : DataW H} {p : List MemPlace} {b0 : Nat} (hv : Value.okWide Tryd.prog w .any b0 5 v) (h : DataW.Trod enc Tryd.prog w 0 (fun _ => true) true 5 v d p) : ∃ c : Nat, v = .int .u8 (c : Int) ∧ c < 256 := by
  obtain ⟨n, rfl, -, -, m⟩ := open_int Tryd.underlying5 hv h
  obtain ⟨h0, h1⟩ := wfB m
  exact ⟨n.toNat, by rw [Int.toNat_of_nonneg h0], by omega⟩
end Go.Proofs.YtfamoikmfbpigaaDoor
