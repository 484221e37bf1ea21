/- Appending a state to a row. -/
import Derived.Test.YtgpcpfohfoeclaaUrow
namespace Go.Proofs.Ytgpcpfohfoeclaa
open Go.RowKit

theorem grown_setCell (w : World) (b o : Nat) (v : Value) : w.grownBy (w.setCell ⟨b, o, none⟩ v) (some b) := by
  have h1 : ∀ k, k ≠ b → (w.setCell ⟨b, o, none⟩ v).heap[k]? = w.heap[k]? := fun k hk => by
    unfold World.setCell
    split <;> simp [Array.getElem?_setIfInBounds, Array.getElem?_modify, Ne.symm hk]
  have h2 : (w.setCell ⟨b, o, none⟩ v).heap.size = w.heap.size := by
    unfold World.setCell
    split <;> simp
  exact ⟨by unfold World.setCell; split <;> rfl, by unfold World.setCell; split <;> rfl, by unfold World.setCell; split <;> rfl, by omega, fun k _ hne => h1 k (fun e => hne (by rw [e]))⟩
theorem grown_setCells (b : Nat) : ∀ (vs : List Value) (o : Nat) (w : World), w.grownBy (w.setCells b o vs) (some b)
  | [], _, w => ⟨rfl, rfl, rfl, Nat.le_refl _, fun _ _ _ => rfl⟩
  | v :: r, o, w => (grown_setCell w b o v).trans (grown_setCells b r (o + 1) _)
theorem typed_setCells {t : TypeId} {k : Nat} (b : Nat) : ∀ (vs : List Value) (o : Nat) {w : World}, Typed w k t → Typed (w.setCells b o vs) k t
  | [], _, _, h => h
  | v :: r, o, w, h => typed_setCells b r (o + 1) (h.setCell ⟨b, o, none⟩ v)
theorem setCells_size (b : Nat) (vs : List Value) (o : Nat) (w : World) : w.heap.size ≤ (w.setCells b o vs).heap.size := (grown_setCells b vs o w).size

theorem Row.room {W : World} {B g off cap : Nat} {L : List (Nat × Int × ByteArray)} (h : Row W B (.slice (some ⟨g, off, none⟩) L.length cap) L) (x : Nat × Int × ByteArray) (hr : L.length + 1 ≤ cap) :
    Row (W.setCells g (off + L.length * 2) [.pointer (some ⟨x.1, 0, none⟩), .int .i64 x.2.1]) B (.slice (some ⟨g, off, none⟩) (L.length + 1) cap) (L ++ [x]) := by
  rcases h with ⟨e, _⟩ | ⟨g', off', cap', e, hg, hty, hl, h1, h2, h3, h4, h5⟩
  · cases e
  · injection e with e1 e2 e3
    injection e1 with e1
    injection e1 with e1 e4
    subst e1 e4 e3
    have hlen : (L ++ [x]).length = L.length + 1 := by simp
    have hfl := flat_len L
    have hin := World.cell?_setCells_in g [.pointer (some ⟨x.1, 0, none⟩), .int .i64 x.2.1] (off + L.length * 2) W (fun j hj => by rw [Nat.add_assoc]; exact h3 (L.length * 2 + j) (by simp at hj; omega))
    refine .inr ⟨g, off, cap, by rw [hlen], hg, typed_setCells _ _ _ hty, Nat.lt_of_lt_of_le hl (setCells_size _ _ _ _), by omega, h2, fun j hj => ?_, fun j => by rw [World.frozen?_setCells]; exact h4 j, fun j u hu => ?_⟩
    · by_cases hj2 : j < L.length * 2 ∨ L.length * 2 + 2 ≤ j
      · rw [World.cell?_setCells_out _ _ _ _ _ (fun _ _ => by dsimp only [List.length_cons, List.length_nil]; omega)]; exact h3 j hj
      · have := hin (j - L.length * 2) (by simp; omega)
        rw [show off + L.length * 2 + (j - L.length * 2) = off + j by omega] at this
        rw [this]; rfl
    · rw [flat_snoc] at hu
      by_cases hj2 : j < L.length * 2
      · rw [World.cell?_setCells_out _ _ _ _ _ (fun _ _ => by dsimp only [List.length_cons, List.length_nil]; omega)]
        exact h5 j u (by rw [List.getElem?_append_left (by omega)] at hu; exact hu)
      · rw [List.getElem?_append_right (by omega), hfl] at hu
        obtain ⟨hlt, he⟩ := List.getElem?_eq_some_iff.1 hu
        have := hin (j - L.length * 2) hlt
        rw [show off + L.length * 2 + (j - L.length * 2) = off + j by omega] at this
        rw [this, he]
theorem info_state : (Try.prog.info? 54).map (fun i => (i.zero, i.size, i.bytes)) = some (some (.agg #[.pointer none, .int .i64 0]), 2, 16) := by kernel_rfl

/-- At the operation: a state is appended to a row. -/
theorem wpList_row {ops : Array Oper} {rest : List Oper} {o : Oper} {a : Act} {Q : Exit → Act → World → Prop} (W : World)
    (hgd : o.guard = none) (s x : Operand) (hop : o.op = Op.call { callee := Callee.builtin Builtin.append, args := #[s, x], argTypes := #[55, 55] })
    (v : Value) (L : List (Nat × Int × ByteArray)) (B : Nat) (hs : a.eval s = v) (hrow : Row W B v L) (hB : B ≤ W.heap.size) (hlen : L.length ≤ 100000) (y : Nat × Int × ByteArray)
    (ad : Addr) (hx : a.eval x = .slice (some ad) 1 1) (hc : ∀ j u, ([.pointer (some ⟨y.1, 0, none⟩), .int .i64 y.2.1] : List Value)[j]? = some u → W.cell? (ad.add j) = some u)
    (hK : ∀ v' w', Row w' B v' (L ++ [y]) → W.grownBy w' v.ownBlock → (∀ k, v.ownBlock = some k → B ≤ k) → wpList Try.prog ops Q rest (a.put o.dst v') w') :
    wpList Try.prog ops Q (o :: rest) a W := by
  obtain ⟨i0, hi, hz0, hz1, hz2⟩ := info_parts info_state
  have hfl := flat_len L
  have e1 : (L ++ [y]).length = L.length + 1 := by simp
  rcases hrow with ⟨rfl, rfl⟩ | ⟨g, off, cap, rfl, hg, hty, hl, h1, h2, h3, h4, h5⟩
  · refine wpList_append_grows W hgd s x 55 hop 54 i0 _ 2 16 Try.underlying55 hi hz0 hz1 hz2 rfl (by decide) none 0 0 [] hs (fun _ => ⟨rfl, rfl⟩) rfl (fun _ e => by cases e) ad 1 1 [.pointer (some ⟨y.1, 0, none⟩), .int .i64 y.2.1] hx rfl hc (by simp [Value.oneCell']) (by omega) (by unfold maxLen; omega) (by omega) ?_
    intro v' w' hown hgr
    exact hK v' w' (Row.mono (Row.of_own (L := [] ++ [y]) hown) hB) hgr (fun k e => by cases e)
  · have hrow' : Row W B (.slice (some ⟨g, off, none⟩) L.length cap) L := .inr ⟨g, off, cap, rfl, hg, hty, hl, h1, h2, h3, h4, h5⟩
    refine wpList_append_arg W hgd s x 55 hop 54 i0 _ 2 16 Try.underlying55 hi hz0 hz1 hz2 rfl (by decide) g off L.length cap (flat L) hs hfl h5 ad 1 1 [.pointer (some ⟨y.1, 0, none⟩), .int .i64 y.2.1] hx rfl hc (by simp [Value.oneCell'])
      (fun hr j hj => ⟨by rw [Nat.add_assoc]; exact h3 _ (by simp at hj; omega), h4 _⟩) (by unfold maxLen; omega) (by omega) (fun hr => ?_) (fun hr v' w' hown hgr => ?_)
    · exact hK _ _ (by have := hrow'.room y hr; rw [← e1] at this; rw [← e1]; exact this) (grown_setCells _ _ _ _) (fun k e => by have e9 : some g = some k := e; injection e9 with e9; omega)
    · refine hK v' w' (Row.mono (Row.of_own (by rw [e1, flat_snoc]; exact hown)) hB) ⟨hgr.os, hgr.tape, hgr.output, hgr.size, fun k hk _ => hgr.block k hk (by simp)⟩ (fun k e => by have e9 : some g = some k := e; injection e9 with e9; omega)
end Go.Proofs.Ytgpcpfohfoeclaa
