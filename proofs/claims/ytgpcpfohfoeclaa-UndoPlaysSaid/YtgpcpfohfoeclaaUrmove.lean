/- The reference's Move. -/
import Derived.Test.YtgpcpfohfoeclaaUrgo
namespace Go.Proofs.Ytgpcpfohfoeclaa
open Go.RowKit

theorem info_rs : (Try.prog.info? 43).map (fun i => (i.zero, i.size, i.bytes)) = some (some (.agg #[.string ⟨#[]⟩, .int .i64 0]), 2, 24) := by kernel_rfl
theorem flatR_ones (L : List (ByteArray × Int)) : ∀ u ∈ flatR L, u.oneCell' = true := by
  intro u hu
  unfold flatR at hu
  obtain ⟨x, _, hx⟩ := List.mem_flatMap.1 hu
  simp only [List.mem_cons, List.not_mem_nil, or_false] at hx
  rcases hx with rfl | rfl <;> rfl
theorem flatR_set (L : List (ByteArray × Int)) (i : Nat) (hi : i < L.length) (y : ByteArray × Int) : flatR (L.set i y) = ((flatR L).set (i * 2) (.string y.1)).set (i * 2 + 1) (.int .i64 y.2) := by
  induction L generalizing i with
  | nil => simp at hi
  | cons a l ih =>
    cases i with
    | zero => rfl
    | succ i =>
      have e : ∀ (a : ByteArray × Int) l, flatR (a :: l) = .string a.1 :: .int .i64 a.2 :: flatR l := fun _ _ => rfl
      rw [List.set_cons_succ, e, e, ih i (by simpa using hi), show (i + 1) * 2 = i * 2 + 1 + 1 by omega]
      rfl
/-- Setting the cursor alone. -/
theorem flatR_cursor (L : List (ByteArray × Int)) (i : Nat) (x : ByteArray × Int) (hx : L[i]? = some x) (c : Int) : flatR (L.set i (x.1, c)) = (flatR L).set (i * 2 + 1) (.int .i64 c) := by
  have hi := (List.getElem?_eq_some_iff.1 hx).1
  rw [flatR_set L i hi]
  congr 1
  have := (flatR_at hx).1
  obtain ⟨hlt, he⟩ := List.getElem?_eq_some_iff.1 this
  rw [← he, List.set_getElem_self]
/-- A list of the reference's that the call has made. -/
def ROwn (W : World) (B g cap : Nat) (L : List (ByteArray × Int)) : Prop :=
  B ≤ g ∧ Typed W g 43 ∧ L.length ≤ cap ∧ (∀ j, W.frozen? ⟨g, j, none⟩ = false) ∧ ∀ j u, (flatR L)[j]? = some u → W.cell? ⟨g, j, none⟩ = some u
theorem ROwn.of_own {W : World} {B n : Nat} {v : Value} {L : List (ByteArray × Int)} (hn : n = L.length) (h0 : 0 < n) (h : W.ownsRow B 43 2 v n (flatR L)) : ∃ g cap, v = .slice (some ⟨g, 0, none⟩) n cap ∧ ROwn W B g cap L := by
  subst hn
  rcases h.2 with ⟨e, h1⟩ | ⟨g, cap, cur, rfl, hg, hh, h1, h2, h3, h4⟩
  · omega
  · have hc := h.cells (g := g) rfl
    refine ⟨g, cap, rfl, hg, ⟨_, _, hh⟩, h1, fun j => h.frozenAt j, fun j u hu => ?_⟩
    have e7 := hc j u hu
    rw [Addr.add_lit, Nat.zero_add] at e7
    exact e7
theorem rcells {W : World} {g off : Nat} {L : List (ByteArray × Int)} (h : ∀ j u, (flatR L)[j]? = some u → W.cell? ⟨g, off + j, none⟩ = some u) (k : Nat) : ∀ j u, (flatR (L.take k))[j]? = some u → W.cell? (Addr.add ⟨g, off, none⟩ j) = some u := by
  intro j u hu
  rw [Addr.add_lit]
  refine h j u ?_
  have : flatR L = flatR (L.take k) ++ flatR (L.drop k) := by unfold flatR; rw [← List.flatMap_append, List.take_append_drop]
  rw [this, List.getElem?_append_left (List.getElem?_eq_some_iff.1 hu).1]
  exact hu

theorem rmove_end {w w1 : World} {B r g9 c9 at1 : Nat} {L : List (ByteArray × Int)} {o c : Int} {x : ByteArray × Int} (h : RAt w B r L at1 o) (ro : ROwn w1 w.heap.size g9 c9 L) (hb : Below w.heap.size w w1) (hB : B ≤ w.heap.size) (hx : L[at1]? = some x) :
    RAt ((w1.setCell ⟨g9, at1 * 2 + 1, none⟩ (.int .i64 c)).setCell ⟨r, 0, none⟩ (.slice (some ⟨g9, 0, none⟩) L.length c9)) B r (L.set at1 (x.1, c)) at1 o ∧ KeptR w ((w1.setCell ⟨g9, at1 * 2 + 1, none⟩ (.int .i64 c)).setCell ⟨r, 0, none⟩ (.slice (some ⟨g9, 0, none⟩) L.length c9)) ∧ Below B w ((w1.setCell ⟨g9, at1 * 2 + 1, none⟩ (.int .i64 c)).setCell ⟨r, 0, none⟩ (.slice (some ⟨g9, 0, none⟩) L.length c9)) := by
  obtain ⟨r0, r1, r2, r3, r4⟩ := ro
  obtain ⟨h0, g, off, cap, ht, h1, h2, h3, h4, h5, h6, h7, h8⟩ := h.below hb
  have hgr : g9 ≠ r := r1.ne ht (by decide)
  have hs1 := grown_setCell w1 g9 (at1 * 2 + 1) (.int .i64 c)
  have hs2 := grown_setCell (w1.setCell ⟨g9, at1 * 2 + 1, none⟩ (.int .i64 c)) r 0 (.slice (some ⟨g9, 0, none⟩) L.length c9)
  refine ⟨⟨h0, g9, 0, c9, (ht.setCell _ _).setCell _ _, ?_, ?_, ?_, fun j => by rw [World.frozen?_setCell, World.frozen?_setCell]; exact h4 j, (r1.setCell _ _).setCell _ _, by simpa using r2, by simpa using h7, fun j u hu => ?_⟩, ((KeptR.of_below hb).grown hs1 (fun k e => by injection e with e; subst e; exact .inl r1)).grown hs2 (fun k e => by injection e with e; subst e; exact .inr (ht.setCell _ _)),
    below_grown (below_grown (hb.mono hB) hs1 (Nat.le_trans hB hb.size) fun k e => by injection e with e; omega) hs2 (Nat.le_trans hB (Nat.le_trans hb.size hs1.size)) fun k e => by injection e with e; omega⟩
  · rw [List.length_set]
    exact World.cell?_setCell_same _ _ _ ((World.cell?_setCell_other _ _ _ _ (by simp [hgr, Ne.symm hgr])).trans h1)
  · rw [World.cell?_setCell_other _ _ _ _ (by simp), World.cell?_setCell_other _ _ _ _ (by simp [hgr, Ne.symm hgr])]; exact h2
  · rw [World.cell?_setCell_other _ _ _ _ (by simp), World.cell?_setCell_other _ _ _ _ (by simp [hgr, Ne.symm hgr])]; exact h3
  · rw [World.cell?_setCell_other _ _ _ _ (by simp [hgr, Ne.symm hgr]), Nat.zero_add]
    rw [flatR_cursor L at1 x hx c] at hu
    by_cases hj : j = at1 * 2 + 1
    · subst hj
      rw [List.getElem?_set_self (List.getElem?_eq_some_iff.1 (flatR_at hx).2).1] at hu
      injection hu with hu
      subst hu
      exact World.cell?_setCell_same _ _ _ (r4 _ _ (flatR_at hx).2)
    · rw [List.getElem?_set_ne (Ne.symm hj)] at hu
      rw [World.cell?_setCell_other _ _ _ _ (by simp [hj, Ne.symm hj])]
      exact r4 j u hu

attribute [local go_sem] cell_same in
set_option maxHeartbeats 2000000 in
theorem rmove_any (B r : Nat) (L : List (ByteArray × Int)) (at1 : Nat) (o c : Int) (x : ByteArray × Int) (w : World) (h : RAt w B r L at1 o) (hB : B ≤ w.heap.size) (hx : L[at1]? = some x) (hl : L.length ≤ 1000) :
    Calls Try.prog 20 #[.pointer (some ⟨r, 0, none⟩), .int .i64 c] w fun e w' => e = .returned (.tuple #[]) ∧ RAt w' B r (L.set at1 (x.1, c)) at1 o ∧ KeptR w w' ∧ Below B w w' := by
  obtain ⟨i0, hi, hz0, hz1, hz2⟩ := info_parts info_rs
  have H := hide h
  have HB := hide hB
  obtain ⟨h0, g, off, cap, ht, h1, h2, h3, h4, h5, h6, h7, h8⟩ := h
  have l1 := World.block_lt_of_cell? _ _ h1
  have HN := hide (rcells h8 L.length)
  rw [List.take_length] at HN
  have HFL := hide (flatR_len L)
  clear h8 hB
  go_enter Try.func20, Try.ntmps20
  go_wp2_with (at_builtin; refine wpList_append_own _ rfl _ _ 49 rfl w.heap.size 43 i0 (.agg #[.string ⟨#[]⟩, .int .i64 0]) 2 24 Try.underlying49 hi hz0 hz1 hz2 rfl (by decide) _ _ _ rfl (World.ownsRow_nil _ _ _ _) ⟨g, off, none⟩ L.length cap (flatR L) rfl HFL.out HN.out (flatR_ones L) (by unfold maxLen; omega) (by omega) (Nat.le_refl _) ?_; intro v' w1 hown1 hgrow1 _; obtain ⟨g9, c9, e9, ro9⟩ := ROwn.of_own (n := L.length) (L := L) rfl (by omega) (by simpa using hown1); rw [e9]; clear hown1 e9; have hb9 : Below w.heap.size w w1 := (Below.refl _ _).grown hgrow1 (by simp) (fun k e => by have e' : (none : Option Nat) = some k := e; cases e'); clear hgrow1; have RO := hide ro9; have HB9 := hide hb9; have hAt := H.out.below hb9; obtain ⟨-, g', off', cap', ht', h1', h2', h3', h4', -⟩ := hAt; have hc9 := ro9.2.2.2.2 _ _ (flatR_at hx).2; have hf9 := ro9.2.2.2.1; have hl9 := ro9.2.2.1; have hl1 := World.block_lt_of_cell? _ _ hc9; have hl2 := World.block_lt_of_cell? _ _ h2'; clear ro9 hb9)
  go_end0
  exact ⟨rfl, rmove_end H.out RO.out HB9.out HB.out hx⟩
end Go.Proofs.Ytgpcpfohfoeclaa
