/- slices.Chunk of a screen's cells; what holds between two rounds of a range over it. -/
import Derived.Test.YtojjdckpbmjjdaaDoorRangef
import Derived.Test.YtojjdckpbmjjdaaDoorGrow
import Derived.Test.YtojjdckpbmjjdaaDoorGput2
namespace Go.Proofs.YtojjdckpbmjjdaaDoor
open Go.RowKit Go.Shelf

theorem chunk_any (A : Option Addr) (n cap : Nat) (c : Int) (h : 1 ≤ c) (w : World) : Calls Tryd.prog 39 #[.slice A n cap, .int .i64 c] w fun e w' => e = .returned (.func (.func 47) #[] #[.pointer (some ⟨w.heap.size, 0, none⟩), .pointer (some ⟨w.heap.size + 1, 0, none⟩)]) ∧ w' = (w.alloc (.cells #[.slice A n cap] 26)).alloc (.cells #[.int .i64 c] 3) := by
  have h0 : ¬ c < 1 := by omega
  go_enter Tryd.func39, Tryd.ntmps39
  go_wp2
  go_ret
  exact ⟨rfl, rfl⟩
/-- Between two rounds: D the deferred's block, ahead of it the boxes of the iterator, behind it the loop's record. -/
def ChI (w0 : World) (B D : Nat) (o : Obj) (v : Value) (c : Int) (W : World) : Prop :=
  B ≤ D ∧ W.heap[D + 1 + 1 + 1]? = some o ∧ W.heap[D + 1 + 1]? = some (.deferred (some [])) ∧ Boxed W D 26 v ∧ Boxed W (D + 1) 3 (.int .i64 c) ∧ Below B w0 W
theorem ChI.below {w0 W W' : World} {B D : Nat} {o : Obj} {v : Value} {c : Int} (h : ChI w0 B D o v c W) (hb : Below W.heap.size W W') : ChI w0 B D o v c W' := by
  obtain ⟨h0, h1, h2, h3, h4, h5⟩ := h
  have k : ∀ {i : Nat} {u : Obj}, W.heap[i]? = some u → W'.heap[i]? = some u := fun {i u} e => (hb.block i (Array.getElem?_eq_some_iff.1 e).1).trans e
  exact ⟨h0, k h1, k h2, k h3, k h4, h5.trans (hb.mono (by have := (Array.getElem?_eq_some_iff.1 h1).1; omega))⟩
theorem ChI.drewN {w0 W : World} {B D : Nat} {o : Obj} {v : Value} {c : Int} (h : ChI w0 B D o v c W) (n : Nat) : ChI w0 B D o v c (W.drewN n) :=
  h.below (below_drewG (Below.refl _ _) n)
theorem ChI.put {w0 W : World} {B D : Nat} {o : Obj} {v : Value} {c : Int} (h : ChI w0 B D o v c W) (ho : o.isCells = false) (o' : Obj) : ChI w0 B D o' v c (W.putObj (D + 1 + 1 + 1) o') := by
  obtain ⟨h0, h1, h2, h3, h4, h5⟩ := h
  have hlt := (Array.getElem?_eq_some_iff.1 h1).1
  exact ⟨h0, World.putObj_heap_same hlt, (World.putObj_heap_other (by omega)).trans h2, putObj_box h3 h1 ho, putObj_box h4 h1 ho, h5.grown (grownBy_putObj' W (D + 1 + 1 + 1) o') (by omega) (fun k e => by cases e; omega)⟩
/-- Blocks below the deferred's are as they were. -/
theorem ChI.blk {w0 W : World} {B D b : Nat} {o : Obj} {v : Value} {c : Int} {t : TypeId} {cs : List Value} (_ : ChI w0 B D o v c W) (hb : Blk W b t cs) (hlt : b < D) (o' : Obj) : Blk (W.putObj (D + 1 + 1 + 1) o') b t cs :=
  (World.putObj_heap_other (by omega)).trans hb
/-- A store in a block of the function's own. -/
theorem ChI.set {w0 W : World} {B D g : Nat} {o : Obj} {v : Value} {c : Int} (h : ChI w0 B D o v c W) (h1 : B ≤ g) (h2 : g < D) (i : Nat) (x : Value) : ChI w0 B D o v c (W.setCell ⟨g, i, none⟩ x) := by
  obtain ⟨h0, k1, k2, h3, h4, h5⟩ := h
  have k : ∀ {j : Nat} {u : Obj}, W.heap[j]? = some u → g < j → (W.setCell ⟨g, i, none⟩ x).heap[j]? = some u := fun {j u} e hlt => (Below.heap_setCell _ _ _ _ (by simp; omega)).trans e
  exact ⟨h0, k k1 (by omega), k k2 (by omega), k h3 (by omega), k h4 (by omega), h5.setCell (p := ⟨g, i, none⟩) h1 _⟩
theorem ChI.fin {w0 W : World} {D b : Nat} {o : Obj} {v u : Value} {c : Int} {t : TypeId} (h : ChI w0 w0.heap.size D o v c W) (hb : Boxed W b t u) (hlt : b < D) :
    (W.putObj (D + 1 + 1) (.deferred none)).cell? ⟨b, 0, none⟩ = some u ∧ Below w0.heap.size w0 (W.putObj (D + 1 + 1) (.deferred none)) := by
  obtain ⟨h0, k1, k2, h3, h4, h5⟩ := h
  exact ⟨(putObj_box hb k2 rfl).cell, h5.trans (belowK_b (w := w0) (Nat.le_refl _) W _ _ _ (by omega) k2 rfl rfl)⟩
theorem ChI.start (w : World) (v : Value) (c : Int) (rec : Obj) (w0 : World) (B : Nat) (h : Below B w0 w) (hB : B ≤ w.heap.size) :
    ChI w0 B w.heap.size rec v c ((((w.alloc (.cells #[v] 26)).alloc (.cells #[.int .i64 c] 3)).alloc (.deferred (some []))).alloc rec) := by
  refine ⟨hB, ?_, ?_, (((Boxed.new _ _ _).alloc _).alloc _).alloc _, ?_, ?_⟩
  · have := World.alloc_heap_new (((w.alloc (.cells #[v] 26)).alloc (.cells #[.int .i64 c] 3)).alloc (.deferred (some []))) rec
    simpa only [World.size_alloc] using this
  · have := World.alloc_heap_new ((w.alloc (.cells #[v] 26)).alloc (.cells #[.int .i64 c] 3)) (.deferred (some []))
    simp only [World.size_alloc] at this
    exact (Below.heap_alloc _ _ _ (by simp only [World.size_alloc]; omega)).trans this
  · have := ((Boxed.new (w.alloc (.cells #[v] 26)) 3 (.int .i64 c)).alloc (.deferred (some []))).alloc rec
    simpa using this
  · exact (((h.alloc hB _).alloc (by simp; omega) _).alloc (by simp; omega) _).alloc (by simp; omega) _
end Go.Proofs.YtojjdckpbmjjdaaDoor
