/- A block that is known whole. No program in sight. -/
import Derived.Below
import Derived.WalkKit
import Derived.RangeFuncBox
import Derived.OwnWalk
import Derived.Deep.QuietTactic
namespace Go.Proofs.YtfamoikmfbpigaaDoor
open Go.RowKit

/-- The block's cells are these, of type t, and may be written. -/
def Blk (W : World) (b : Nat) (t : TypeId) (cs : List Value) : Prop := W.heap[b]? = some (.cells cs.toArray t (0, 0))
theorem Blk.lt {W : World} {b : Nat} {t : TypeId} {cs : List Value} (h : Blk W b t cs) : b < W.heap.size := (Array.getElem?_eq_some_iff.1 h).1
theorem Blk.cell {W : World} {b : Nat} {t : TypeId} {cs : List Value} (h : Blk W b t cs) {i : Nat} {u : Value} (hi : cs[i]? = some u) : W.cell? ⟨b, i, none⟩ = some u := by
  simp [World.cell?, show W.heap[b]? = _ from h, hi]
theorem Blk.frozen {W : World} {b : Nat} {t : TypeId} {cs : List Value} (h : Blk W b t cs) (i : Nat) : W.frozen? ⟨b, i, none⟩ = false := by
  simp [World.frozen?, show W.heap[b]? = _ from h]
theorem Blk.new (W : World) (t : TypeId) (cs : List Value) : Blk (W.alloc (.cells cs.toArray t)) W.heap.size t cs := World.alloc_heap_new W _
theorem Blk.below {W W' : World} {b : Nat} {t : TypeId} {cs : List Value} (h : Blk W b t cs) (hb : Below W.heap.size W W') : Blk W' b t cs := (hb.block b h.lt).trans h
theorem Blk.under {B : Nat} {W W' : World} {b : Nat} {t : TypeId} {cs : List Value} (h : Blk W b t cs) (hb : Below B W W') (hl : b < B) : Blk W' b t cs := (hb.block b hl).trans h
theorem Blk.alloc {W : World} {b : Nat} {t : TypeId} {cs : List Value} (h : Blk W b t cs) (o : Obj) : Blk (W.alloc o) b t cs := h.below ((Below.refl _ _).alloc (Nat.le_refl _) _)
theorem Blk.drewN {W : World} {b : Nat} {t : TypeId} {cs : List Value} (h : Blk W b t cs) (n : Nat) : Blk (W.drewN n) b t cs := h
theorem Blk.drew {W : World} {b : Nat} {t : TypeId} {cs : List Value} (h : Blk W b t cs) : Blk W.drew b t cs := h
theorem Blk.set {W : World} {b : Nat} {t : TypeId} {cs : List Value} (h : Blk W b t cs) (i : Nat) (v : Value) : Blk (W.setCell ⟨b, i, none⟩ v) b t (cs.set i v) := by
  obtain ⟨hlt, hk⟩ := Array.getElem?_eq_some_iff.1 h
  show (W.heap.modify b _)[b]? = _
  rw [Array.getElem?_eq_getElem (by rw [Array.size_modify]; exact hlt), Array.getElem_modify_self, hk]
  simp
theorem Blk.far {W : World} {b : Nat} {t : TypeId} {cs : List Value} (h : Blk W b t cs) {p : Addr} (hp : p.block ≠ b) (v : Value) : Blk (W.setCell p v) b t cs :=
  (Below.heap_setCell _ _ _ _ (fun e => hp e.symm)).trans h
end Go.Proofs.YtfamoikmfbpigaaDoor
