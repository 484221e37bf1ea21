/- The walk of RulesDeep. -/
import Derived.Test.YtfamoikmfbpigaaDoorRword
namespace Go.Proofs.YtfamoikmfbpigaaDoor
open Go.RowKit

/-- A state in a box of two cells. -/
def St (W : World) (B : Nat) (a d : Int) : Prop := W.cell? ⟨B, 0, none⟩ = some (.int .i64 a) ∧ W.cell? ⟨B, 1, none⟩ = some (.int .i64 d) ∧ W.frozen? ⟨B, 0, none⟩ = false ∧ W.frozen? ⟨B, 1, none⟩ = false
theorem St.below {A W : World} {B : Nat} {a d : Int} (h : St A B a d) (hb : Below A.heap.size A W) : St W B a d := by
  have hlt := World.block_lt_of_cell? _ _ h.1
  exact ⟨(hb.cell (p := ⟨B, 0, none⟩) hlt).trans h.1, (hb.cell (p := ⟨B, 1, none⟩) hlt).trans h.2.1, (hb.frozen (p := ⟨B, 0, none⟩) hlt).trans h.2.2.1, (hb.frozen (p := ⟨B, 1, none⟩) hlt).trans h.2.2.2⟩
theorem St.set {W : World} {B : Nat} {a d : Int} (h : St W B a d) (a' d' : Int) : St ((W.setCell ⟨B, 0, none⟩ (.int .i64 a')).setCell ⟨B, 1, none⟩ (.int .i64 d')) B a' d' := by
  obtain ⟨h1, h2, h3, h4⟩ := h
  have e1 : (W.setCell ⟨B, 0, none⟩ (.int .i64 a')).cell? ⟨B, 0, none⟩ = some (.int .i64 a') := World.cell?_setCell_same _ _ _ h1
  have e2 : (W.setCell ⟨B, 0, none⟩ (.int .i64 a')).cell? ⟨B, 1, none⟩ = some (.int .i64 d) := (World.cell?_setCell_other _ _ _ _ (by simp)).trans h2
  exact ⟨(World.cell?_setCell_other _ _ _ _ (by simp)).trans e1, World.cell?_setCell_same _ _ _ e2, by rw [World.frozen?_setCell, World.frozen?_setCell]; exact h3, by rw [World.frozen?_setCell, World.frozen?_setCell]; exact h4⟩
theorem St.new (w : World) (a d : Int) (t : TypeId) : St (w.alloc (.cells #[.int .i64 a, .int .i64 d] t)) w.heap.size a d := by
  refine ⟨?_, ?_, ?_, ?_⟩
  · simp
  · simp
  · rw [frozen?_alloc_cells]; simp [World.frozen?]
  · rw [frozen?_alloc_cells]; simp [World.frozen?]

end Go.Proofs.YtfamoikmfbpigaaDoor
