/- Opening the runes and acts that come into the laws of Keys. -/
import Derived.Test.YtiilgeinkocanaaDoorKdoor
import Derived.Test.YtiilgeinkocanaaDoorOpenrow
import Derived.Test.YtiilgeinkocanaaDoorKruneslaw
namespace Go.Proofs.YtiilgeinkocanaaDoor
open Go.ChangeShapes Go.WideShapes Go.ChangeAt Go.RowKit

theorem cellsKR : Tryd.prog.cellsOf 21 = 1 := by kernel_rfl
section
variable {H : Type} {enc : TypeId × Value → H}
set_option maxRecDepth 100000 in
theorem open_runes {w : World} {v : Value} {d : DataW H} {p : List MemPlace} {b0 : Nat} (hv : Value.okWide Tryd.prog w .any b0 48 v) (h : DataW.Trod enc Tryd.prog w 0 (fun _ => true) true 48 v d p) :
    ∃ A cap l, v = .slice A l.length cap ∧ l.length ≤ cap ∧ cap ≤ maxLen ∧ RowOf w 1 runeCell A l := by
  obtain ⟨A, cap, l, rfl, h1, h2, h3, _, h4⟩ := open_rows (P := Tryd.prog) (α := Int) 1 (by omega) runeCell (fun _ => True) Tryd.underlying48 cellsKR (fun n cs x hl hf => by
    obtain ⟨m, e, _, _⟩ := DataW.trod_int Tryd.underlying21 hf
    exact ⟨m, e, trivial⟩) hv h
  exact ⟨A, cap, l, rfl, h1, h2, h4⟩
end
end Go.Proofs.YtiilgeinkocanaaDoor
