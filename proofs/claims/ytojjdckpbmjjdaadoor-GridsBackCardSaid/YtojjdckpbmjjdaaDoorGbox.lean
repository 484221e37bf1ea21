/- Frames and painted frames in boxes: what the laws' walks share. -/
import Derived.Test.YtojjdckpbmjjdaaDoorGshown
import Derived.Deep.Cut
namespace Go.Proofs.YtojjdckpbmjjdaaDoor
open Go.RowKit

/-- A frame in its box. -/
def BoxF (W : World) (b : Nat) (f : Fr) (A : Option Addr) (n c : Nat) : Prop :=
  Blk W b 28 (frCells f.rows f.cols (.slice A n c) f.row f.col) ∧ FrAt W (.agg #[.int .i64 f.rows, .int .i64 f.cols, .slice A n c, .int .i64 f.row, .int .i64 f.col]) f
theorem BoxF.below {W W' : World} {b : Nat} {f : Fr} {A : Option Addr} {n c : Nat} (h : BoxF W b f A n c) (hb : Below W.heap.size W W') : BoxF W' b f A n c := ⟨h.1.below hb, h.2.below hb⟩
theorem BoxF.lt {W : World} {b : Nat} {f : Fr} {A : Option Addr} {n c : Nat} (h : BoxF W b f A n c) : b < W.heap.size := h.1.lt
theorem FrAt.form {W : World} {v : Value} {f : Fr} (h : FrAt W v f) : ∃ A n c, v = .agg #[.int .i64 f.rows, .int .i64 f.cols, .slice A n c, .int .i64 f.row, .int .i64 f.col] ∧ n = f.cs.length ∧ n ≤ c ∧ c ≤ maxLen := by
  obtain ⟨A, c, e, h1, h2, -⟩ := h
  exact ⟨A, _, c, e, rfl, h1, h2⟩
theorem FrAt.box {W : World} {A : Option Addr} {n c : Nat} {f : Fr} (h : FrAt W (.agg #[.int .i64 f.rows, .int .i64 f.cols, .slice A n c, .int .i64 f.row, .int .i64 f.col]) f) : BoxF (W.alloc (.cells #[.int .i64 f.rows, .int .i64 f.cols, .slice A n c, .int .i64 f.row, .int .i64 f.col] 28)) W.heap.size f A n c :=
  ⟨Blk.new W _ _, h.below ((Below.refl _ _).alloc (Nat.le_refl _) _)⟩
theorem Blk.newAt {W : World} {b : Nat} {t : TypeId} {cs : List Value} (e : W.heap.size = b) : Blk (W.alloc (.cells cs.toArray t)) b t cs := by subst e; exact Blk.new W t cs
theorem BoxF.reads {W : World} {b : Nat} {f : Fr} {A : Option Addr} {n c : Nat} (h : BoxF W b f A n c) : W.cell? ⟨b, 0, none⟩ = some (.int .i64 f.rows) ∧ W.cell? ⟨b, 1, none⟩ = some (.int .i64 f.cols) ∧ W.cell? ⟨b, 2, none⟩ = some (.slice A n c) ∧ W.cell? ⟨b, 3, none⟩ = some (.int .i64 f.row) ∧ W.cell? ⟨b, 4, none⟩ = some (.int .i64 f.col) := by
  obtain ⟨a0, a1, a2, a3, a4, -⟩ := fr_reads h.1
  exact ⟨a0, a1, a2, a3, a4⟩
/-- What any step keeps: nothing that lay there has changed. -/
theorem alloc_below (X W : World) (h : Below X.heap.size X W) (o : Obj) : Below X.heap.size X (W.alloc o) := h.alloc h.size o
theorem tabs_below {W W' : World} (h : WTabs W ∧ BTab W) (hb : Below W.heap.size W W') : WTabs W' ∧ BTab W' := ⟨h.1.below hb, h.2.below hb⟩
theorem pt_form {W : World} {v : Value} {p : Pt} (h : PtAt W v p) : ∃ A n c, v = .agg #[.int .i64 p.rows, .int .i64 p.cols, .slice A n c, .int .i64 p.row, .int .i64 p.col] ∧ n = p.ink.length ∧ n ≤ c ∧ c ≤ maxLen := by
  obtain ⟨A, c, e, h1, h2, -⟩ := h
  exact ⟨A, _, c, e, rfl, h1, h2⟩
theorem great_is (p : Pt) (b : Bool) (hb : decide (60 < p.ink.length) = b) (v : Value) (w : World) (h : PtAt w v p) : Calls Tryd.prog 9 #[v] w fun e w' => e = .returned (.bool b) ∧ Below w.heap.size w w' := by
  subst hb; exact great_any p v w h
theorem rdiff_is (f g : Fr) (b : Int) (hb : diffF f g = b) (v v' : Value) (w : World) (h : FrAt w v f) (h' : FrAt w v' g) : Calls Tryd.prog 23 #[v, v'] w fun e w' => e = .returned (.int .i64 b) ∧ Below w.heap.size w w' := by
  subst hb; exact rdiff_frame f g v v' w h h'
theorem rsame_is (f g : Fr) (b : Bool) (hb : decide (f = g) = b) (v v' : Value) (w : World) (h : FrAt w v f) (h' : FrAt w v' g) : Calls Tryd.prog 14 #[v, v'] w fun e w' => e = .returned (.bool b) ∧ Below w.heap.size w w' := by
  subst hb; exact rsame_any f g v v' w h h'
end Go.Proofs.YtojjdckpbmjjdaaDoor
