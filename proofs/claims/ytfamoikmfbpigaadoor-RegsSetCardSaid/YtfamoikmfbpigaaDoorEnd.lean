/- regs: nodes, where they lie. -/
import Derived.Test.YtfamoikmfbpigaaDoorEspan
namespace Go.Proofs.YtfamoikmfbpigaaDoor
open Go.RowKit

/-- A node. -/
inductive Nd where
  | mk (k : Int) (S : List Nat) (kids : List Nd)
mutual
/-- A node's cells, in a world; what lies below it lies in blocks from B on. -/
def NdAt (B : Nat) (W : World) : Nd → List Value → Prop
  | .mk k S kids, cs => ∃ A cap, cs = ndL k S (.slice A kids.length cap) ∧ W64 S ∧ kids.length ≤ cap ∧ cap ≤ maxLen ∧ NdsAt B W kids A 0
/-- Nodes side by side, from the jth on. -/
def NdsAt (B : Nat) (W : World) : List Nd → Option Addr → Nat → Prop
  | [], _, _ => True
  | x :: l, A, j => (∃ b o cs, A = some ⟨b, o, none⟩ ∧ (B ≤ b ∧ b < W.heap.size) ∧ cs.length = 6 ∧ (∀ i u, cs[i]? = some u → W.cell? ⟨b, o + j * 6 + i, none⟩ = some u) ∧ NdAt B W x cs) ∧ NdsAt B W l A (j + 1)
end
mutual
theorem NdAt.keep {B C : Nat} {w W : World} (hC : C ≤ B) (hs : w.heap.size ≤ W.heap.size) (hk : ∀ b o u, B ≤ b → w.cell? ⟨b, o, none⟩ = some u → W.cell? ⟨b, o, none⟩ = some u) : ∀ (x : Nd) (cs : List Value), NdAt B w x cs → NdAt C W x cs
  | .mk k S kids, cs, h => by
    unfold NdAt at h ⊢
    obtain ⟨A, cap, h1, h2, h3, h4, h5⟩ := h
    exact ⟨A, cap, h1, h2, h3, h4, NdsAt.keep hC hs hk kids A 0 h5⟩
theorem NdsAt.keep {B C : Nat} {w W : World} (hC : C ≤ B) (hs : w.heap.size ≤ W.heap.size) (hk : ∀ b o u, B ≤ b → w.cell? ⟨b, o, none⟩ = some u → W.cell? ⟨b, o, none⟩ = some u) : ∀ (l : List Nd) (A : Option Addr) (j : Nat), NdsAt B w l A j → NdsAt C W l A j
  | [], _, _, _ => by unfold NdsAt; trivial
  | x :: l, A, j, h => by
    unfold NdsAt at h ⊢
    obtain ⟨⟨b, o, cs, e, hb, hl, hc, hx⟩, h2⟩ := h
    exact ⟨⟨b, o, cs, e, ⟨Nat.le_trans hC hb.1, Nat.lt_of_lt_of_le hb.2 hs⟩, hl, fun i u hu => hk _ _ _ hb.1 (hc i u hu), NdAt.keep hC hs hk x cs hx⟩, NdsAt.keep hC hs hk l A (j + 1) h2⟩
end
theorem NdAt.below {B : Nat} {w W : World} {x : Nd} {cs : List Value} (h : NdAt B w x cs) (hb : Below w.heap.size w W) : NdAt B W x cs :=
  NdAt.keep (Nat.le_refl _) hb.size (fun b o u _ hc => (hb.cell (p := ⟨b, o, none⟩) (World.block_lt_of_cell? _ _ hc)).trans hc) x cs h
theorem NdAt.low {B C : Nat} {w : World} {x : Nd} {cs : List Value} (h : NdAt B w x cs) (hC : C ≤ B) : NdAt C w x cs := NdAt.keep hC (Nat.le_refl _) (fun _ _ _ _ h => h) x cs h
/-- A box below is written. -/
theorem NdAt.keepZ {B z : Nat} {w W : World} {x : Nd} {cs : List Value} (h : NdAt B w x cs) (hz : z < B) (hk : KeepR z w W) : NdAt B W x cs :=
  NdAt.keep (Nat.le_refl _) hk.size (fun b o u hb hc => hk.cell hc (by omega)) x cs h
theorem NdAt.len {B : Nat} {W : World} : ∀ {x : Nd} {cs : List Value}, NdAt B W x cs → cs.length = 6
  | .mk k S kids, cs, h => by
    unfold NdAt at h
    obtain ⟨A, cap, h1, h2, -⟩ := h
    rw [h1]; simp [ndL, h2.1]
/-- A node without kids. -/
theorem NdAt.leaf (B : Nat) (W : World) (k : Int) {S : List Nat} (hS : W64 S) : NdAt B W (.mk k S []) (ndL k S (.slice none 0 0)) := by
  unfold NdAt NdsAt
  exact ⟨none, 0, rfl, hS, Nat.le_refl _, by unfold maxLen; omega, trivial⟩
/-- A node and the rest; or the panic. -/
def ResN (p : Nat) (w : World) (x : Option (Nd × ByteArray)) (e : Ending) (w' : World) : Prop :=
  match x with
  | some (n, t) => ∃ cs, e = .returned (.agg cs.toArray) ∧ NdAt w.heap.size w' n cs ∧ Rd w' p t ∧ KeepR p w w'
  | none => e = panE ∧ KeepR p w w'
theorem KeepR.own {p z : Nat} {w X Y : World} (h : KeepR p w X) (h2 : KeepR z X Y) (hz : w.heap.size ≤ z) : KeepR p w Y :=
  ⟨h2.os.trans h.os, h2.tape.trans h.tape, h2.output.trans h.output, Nat.le_trans h.size h2.size, fun b hb hne => (h2.block b (Nat.lt_of_lt_of_le hb h.size) (by omega)).trans (h.block b hb hne)⟩
theorem Rd.keepZ {z p : Nat} {w W : World} {s : ByteArray} (h : Rd w p s) (hk : KeepR z w W) (hne : p ≠ z) : Rd W p s := (hk.block p h.lt hne).trans h
end Go.Proofs.YtfamoikmfbpigaaDoor
