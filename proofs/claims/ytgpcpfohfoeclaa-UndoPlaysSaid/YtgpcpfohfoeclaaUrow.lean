/- Rows of states: what an Undo's slices hold; appending to one. -/
import Derived.Test.YtgpcpfohfoeclaaUnow
import Derived.ArgAppend
namespace Go.Proofs.Ytgpcpfohfoeclaa
open Go.RowKit

/-- The cells of some states: each a text's block and a cursor. -/
def flat (L : List (Nat × Int × ByteArray)) : List Value := L.flatMap fun x => [.pointer (some ⟨x.1, 0, none⟩), .int .i64 x.2.1]
theorem flat_len (L : List (Nat × Int × ByteArray)) : (flat L).length = L.length * 2 := by
  unfold flat
  induction L with
  | nil => rfl
  | cons a l ih => simp only [List.flatMap_cons, List.length_append, List.length_cons, List.length_nil] at ih ⊢; omega
theorem flat_snoc (L : List (Nat × Int × ByteArray)) (x : Nat × Int × ByteArray) : flat (L ++ [x]) = flat L ++ [.pointer (some ⟨x.1, 0, none⟩), .int .i64 x.2.1] := by simp [flat]

/-- A slice of states that owns its block, which lies at B or above. -/
def Row (W : World) (B : Nat) (v : Value) (L : List (Nat × Int × ByteArray)) : Prop :=
  (v = .slice none 0 0 ∧ L = []) ∨ ∃ g off cap, v = .slice (some ⟨g, off, none⟩) L.length cap ∧ B ≤ g ∧ Typed W g 54 ∧ g < W.heap.size ∧ L.length ≤ cap ∧ cap ≤ maxLen ∧
    (∀ j, j < cap * 2 → (W.cell? ⟨g, off + j, none⟩).isSome = true) ∧ (∀ j, W.frozen? ⟨g, j, none⟩ = false) ∧ ∀ j u, (flat L)[j]? = some u → W.cell? ⟨g, off + j, none⟩ = some u
theorem Row.nil (W : World) (B : Nat) : Row W B (.slice none 0 0) [] := .inl ⟨rfl, rfl⟩
theorem Row.mono {W : World} {B C : Nat} {v : Value} {L : List (Nat × Int × ByteArray)} (h : Row W B v L) (hc : C ≤ B) : Row W C v L := by
  rcases h with h | ⟨g, off, cap, e, hg, r⟩
  · exact .inl h
  · exact .inr ⟨g, off, cap, e, by omega, r⟩
theorem Row.own {W : World} {B : Nat} {v : Value} {L : List (Nat × Int × ByteArray)} (h : Row W B v L) (k : Nat) (e : v.ownBlock = some k) : B ≤ k := by
  rcases h with ⟨rfl, _⟩ | ⟨g, off, cap, rfl, hg, r⟩
  · cases e
  · have e9 : some g = some k := e
    injection e9 with e9
    omega
theorem Row.ownT {W : World} {B : Nat} {v : Value} {L : List (Nat × Int × ByteArray)} (h : Row W B v L) (k : Nat) (e : v.ownBlock = some k) : Typed W k 54 := by
  rcases h with ⟨rfl, _⟩ | ⟨g, off, cap, rfl, hg, ht, r⟩
  · cases e
  · have e9 : some g = some k := e
    injection e9 with e9
    subst e9
    exact ht
/-- A row stays where its block stays. -/
theorem Row.same {A W : World} {B : Nat} {v : Value} {L : List (Nat × Int × ByteArray)} (h : Row A B v L) (hs : A.heap.size ≤ W.heap.size) (hb : ∀ k, v.ownBlock = some k → W.heap[k]? = A.heap[k]?) : Row W B v L := by
  rcases h with h | ⟨g, off, cap, e, hg, hty, hl, h1, h2, h3, h4, h5⟩
  · exact .inl h
  · have hk := hb g (by rw [e]; rfl)
    have hc : ∀ j, W.cell? ⟨g, j, none⟩ = A.cell? ⟨g, j, none⟩ := fun j => World.cell?_of_block hk
    have hf : ∀ j, W.frozen? ⟨g, j, none⟩ = A.frozen? ⟨g, j, none⟩ := fun j => World.frozen?_of_block hk
    obtain ⟨c9, f9, hty⟩ := hty
    exact .inr ⟨g, off, cap, e, hg, ⟨c9, f9, hk.trans hty⟩, Nat.lt_of_lt_of_le hl hs, h1, h2, fun j hj => by rw [hc]; exact h3 j hj, fun j => (hf j).trans (h4 j), fun j u hu => (hc _).trans (h5 j u hu)⟩
theorem Row.below {A W : World} {B : Nat} {v : Value} {L : List (Nat × Int × ByteArray)} (h : Row A B v L) (hb : Below A.heap.size A W) : Row W B v L := by
  rcases h with h | ⟨g, off, cap, e, hg, hty, hl, h1, h2, h3, h4, h5⟩
  · exact .inl h
  · exact .inr ⟨g, off, cap, e, hg, hty.below hb, Nat.lt_of_lt_of_le hl hb.size, h1, h2, fun j hj => by rw [hb.cell (p := ⟨g, off + j, none⟩) hl]; exact h3 j hj, fun j => (hb.frozen (p := ⟨g, j, none⟩) hl).trans (h4 j), fun j u hu => (hb.cell (p := ⟨g, off + j, none⟩) hl).trans (h5 j u hu)⟩
theorem Row.of_own {W : World} {B : Nat} {v : Value} {L : List (Nat × Int × ByteArray)} (h : W.ownsRow B 54 2 v L.length (flat L)) : Row W B v L := by
  rcases h.2 with ⟨e, h0⟩ | ⟨g, cap, cur, e, hg, hh, h1, h2, h3, h4⟩
  · exact .inl ⟨e, List.length_eq_zero_iff.1 h0⟩
  · have hc := h.cells (g := g) (by rw [e]; rfl)
    refine .inr ⟨g, 0, cap, e, hg, ⟨_, _, hh⟩, (Array.getElem?_eq_some_iff.1 hh).1, h1, h2, fun j hj => ?_, fun j => by subst e; exact h.frozenAt j, fun j u hu => ?_⟩
    · rw [World.cell?, hh]
      simp [show j < cur.size by omega]
    · have e7 := hc j u hu
      rw [Addr.add_lit] at e7
      exact e7
/-- Its last states cut off. -/
theorem Row.cut {W : World} {B : Nat} {g off cap : Nat} {L : List (Nat × Int × ByteArray)} (n : Nat) (hn : n ≤ L.length) (h : Row W B (.slice (some ⟨g, off, none⟩) L.length cap) L) : Row W B (.slice (some ⟨g, off, none⟩) n cap) (L.take n) := by
  rcases h with ⟨e, _⟩ | ⟨g', off', cap', e, hg, hty, hl, h1, h2, h3, h4, h5⟩
  · cases e
  · injection e with e1 e2 e3
    injection e1 with e1
    injection e1 with e1 e4
    subst e1 e4 e3
    have hlen : (L.take n).length = n := by rw [List.length_take]; omega
    have hf : flat L = flat (L.take n) ++ flat (L.drop n) := by unfold flat; rw [← List.flatMap_append, List.take_append_drop]
    refine .inr ⟨g, off, cap, by rw [hlen], hg, hty, hl, by omega, h2, h3, h4, fun j u hu => h5 j u ?_⟩
    rw [hf, List.getElem?_append_left (List.getElem?_eq_some_iff.1 hu).1]
    exact hu
/-- Its first states left out. -/
theorem Row.skip {W : World} {B : Nat} {g off cap : Nat} {L : List (Nat × Int × ByteArray)} (n : Nat) (hn : n ≤ L.length) (h : Row W B (.slice (some ⟨g, off, none⟩) L.length cap) L) : Row W B (.slice (some ⟨g, off + n * 2, none⟩) (L.length - n) (cap - n)) (L.drop n) := by
  rcases h with ⟨e, _⟩ | ⟨g', off', cap', e, hg, hty, hl, h1, h2, h3, h4, h5⟩
  · cases e
  · injection e with e1 e2 e3
    injection e1 with e1
    injection e1 with e1 e4
    subst e1 e4 e3
    have hlen : (L.drop n).length = L.length - n := List.length_drop
    have hf : flat L = flat (L.take n) ++ flat (L.drop n) := by unfold flat; rw [← List.flatMap_append, List.take_append_drop]
    have hft := flat_len (L.take n)
    rw [List.length_take, Nat.min_eq_left hn] at hft
    refine .inr ⟨g, off + n * 2, cap - n, by rw [hlen], hg, hty, hl, by omega, by omega, fun j hj => ?_, h4, fun j u hu => ?_⟩
    · have := h3 (n * 2 + j) (by omega)
      rw [← Nat.add_assoc] at this; exact this
    · have := h5 (n * 2 + j) u (by rw [hf, List.getElem?_append_right (by omega), hft, Nat.add_sub_cancel_left]; exact hu)
      rw [← Nat.add_assoc] at this; exact this
end Go.Proofs.Ytgpcpfohfoeclaa
