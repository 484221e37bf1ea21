/- Slices of strings of the call's own. -/
import Derived.Test.YtfamoikmfbpigaaDoorBlk
import Derived.Test.YtfamoikmfbpigaaDoorHide
import Derived.Test.YtfamoikmfbpigaaDoorShelf
import Derived.WalkKit
import Derived.WalkSpells
import Derived.WalkLawsBesides
import Derived.Handy
import Derived.OwnWalk
import Derived.BigQuiet
import Derived.RangeFuncOwn
import Derived.RangeFuncKeeps
namespace Go.Proofs.YtfamoikmfbpigaaDoor
open Go.RowKit

/-- A slice of strings of the call's own. -/
def SRow (W : World) (B : Nat) (v : Value) (L : List ByteArray) : Prop := W.ownsRow B 9 1 v L.length (L.map Value.string)
theorem SRow.keep {w W : World} {B : Nat} {v : Value} {L : List ByteArray} (h : SRow w B v L) (hk : ∀ b, B ≤ b → b < w.heap.size → W.heap[b]? = w.heap[b]?) : SRow W B v L := by
  refine ⟨h.1, ?_⟩
  rcases h.2 with h0 | ⟨g, cap, cur, rfl, hg, hh, q⟩
  · exact .inl h0
  · exact .inr ⟨g, cap, cur, rfl, hg, (hk g hg (Array.getElem?_eq_some_iff.1 hh).1).trans hh, q⟩
theorem SRow.below {w W : World} {B : Nat} {v : Value} {L : List ByteArray} (h : SRow w B v L) (hb : Below w.heap.size w W) : SRow W B v L := h.keep fun b _ hlt => hb.block b hlt
theorem SRow.form {W : World} {B n : Nat} {v : Value} {L : List ByteArray} (h : SRow W B v L) (hn : L.length = n) : ∃ A c, v = .slice A n c ∧ n ≤ c ∧ c ≤ maxLen := by
  subst hn
  rcases h.2 with ⟨rfl, h0⟩ | ⟨g, cap, cur, rfl, hg, hh, q, qm, _⟩
  · exact ⟨_, _, by rw [h0], by omega, by unfold maxLen; omega⟩
  · exact ⟨_, _, rfl, q, qm⟩
theorem SRow.mono {W : World} {B C : Nat} {v : Value} {L : List ByteArray} (h : SRow W B v L) (hc : C ≤ B) : SRow W C v L := by
  refine ⟨h.1, ?_⟩
  rcases h.2 with h0 | ⟨g, cap, cur, rfl, hg, r⟩
  · exact .inl h0
  · exact .inr ⟨g, cap, cur, rfl, by omega, r⟩
theorem SRow.nil (W : World) (B : Nat) : SRow W B (.slice none 0 0) [] := ⟨rfl, .inl ⟨rfl, rfl⟩⟩
theorem SRow.get {W : World} {B : Nat} {A : Option Addr} {n c : Nat} {L : List ByteArray} (h : SRow W B (.slice A n c) L) {j : Nat} {s : ByteArray} (hj : L[j]? = some s) : ∃ b, A = some ⟨b, 0, none⟩ ∧ B ≤ b ∧ b < W.heap.size ∧ W.cell? ⟨b, j, none⟩ = some (.string s) := by
  rcases h.2 with ⟨h0, h1⟩ | ⟨g, cap, cur, h0, hg, hh, q⟩
  · have : L = [] := List.eq_nil_of_length_eq_zero h1
    subst this; simp at hj
  · injection h0 with e1 e2 e3
    subst e1
    refine ⟨g, rfl, hg, (Array.getElem?_eq_some_iff.1 hh).1, ?_⟩
    have hc := Go.World.ownsRow.cells (g := g) h rfl j (.string s) (by simp [hj])
    rw [← hc]
    congr 1
    unfold Addr.add
    split <;> simp_all
theorem info_strS : (Tryd.prog.info? 9).map (fun i => (i.zero, i.size, i.bytes)) = some (some (.string ⟨#[]⟩), 1, 16) := by kernel_rfl
theorem info_strS_parts : ∃ i, Tryd.prog.info? 9 = some i ∧ i.zero = some (.string ⟨#[]⟩) ∧ i.size = 1 ∧ i.bytes = 16 := by
  have h := info_strS
  cases hi : Tryd.prog.info? 9 with
  | none => rw [hi] at h; cases h
  | some i =>
    rw [hi] at h
    simp only [Option.map_some, Option.some.injEq, Prod.mk.injEq] at h
    exact ⟨i, rfl, h⟩
theorem one_strS (w : World) (s : ByteArray) : ∀ j u, ([.string s] : List Value)[j]? = some u → (w.alloc (.cells #[.string s] 9)).cell? ((⟨w.heap.size, 0, none⟩ : Addr).add j) = some u := by
  intro j u hu
  cases j with
  | zero => simp at hu; subst hu; simp [Addr.add]
  | succ j => simp at hu
theorem SRow.app {W : World} {B : Nat} {v : Value} {L : List ByteArray} {s : ByteArray} (h : W.ownsRow B 9 1 v (L.length + 1) (L.map Value.string ++ [.string s])) : SRow W B v (L ++ [s]) := by
  unfold SRow
  rw [List.length_append, List.map_append]
  exact h
end Go.Proofs.YtfamoikmfbpigaaDoor
