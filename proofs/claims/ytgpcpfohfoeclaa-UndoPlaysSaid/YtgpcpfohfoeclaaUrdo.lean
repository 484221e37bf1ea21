/- The reference's Do. -/
import Derived.Test.YtgpcpfohfoeclaaUrmove
namespace Go.Proofs.Ytgpcpfohfoeclaa
open Go.RowKit

theorem step_rcopy {ops : Array Oper} {o : Oper} {a : Act} {W : World} {K : Act → World → Prop} {Q : Exit → Act → World → Prop} {E : Prop}
    (hgd : o.guard = none) (x : Operand) (hop : o.op = Op.call { callee := Callee.builtin Builtin.append, args := #[.const (.slice none 0 0), x], argTypes := #[49, 49] })
    (g off k c : Nat) (L : List (ByteArray × Int)) (hx : a.eval x = .slice (some ⟨g, off, none⟩) k c) (hk : L.length = k) (h0 : 0 < k) (hkl : k ≤ 1000) (hc : ∀ j u, (flatR L)[j]? = some u → W.cell? (Addr.add ⟨g, off, none⟩ j) = some u)
    (hK : ∀ g9 c9 w', w'.ownsRow W.heap.size 43 2 (.slice (some ⟨g9, 0, none⟩) k c9) k (flatR L) → W.grownBy w' none → K (a.put o.dst (.slice (some ⟨g9, 0, none⟩) k c9)) w') :
    if Region.wanted o (yielded ops a.tmps) = true then Oper.wp Try.prog o a W K Q else E := by
  have hw : Region.wanted o (yielded ops a.tmps) = true := by simp [Region.wanted, hgd]
  rw [if_pos hw]
  obtain ⟨i0, hi, hz0, hz1, hz2⟩ := info_parts info_rs
  have hfl := flatR_len L
  obtain ⟨v', w', hrun, r1, r2, _⟩ := run_append_own (P := Try.prog) W W.heap.size 49 o.type 43 i0 _ 2 24 Try.underlying49 hi hz0 hz1 hz2 rfl (by decide) (.slice none 0 0) 0 [] (World.ownsRow_nil W _ _ 2) ⟨g, off, none⟩ k c (flatR L) (by omega) hc (flatR_ones L) (by unfold maxLen; omega) (by omega) (Nat.le_refl _)
  rw [Nat.zero_add, List.nil_append] at r1
  obtain ⟨g9, c9, rfl, _⟩ := ROwn.of_own (n := k) (L := L) hk.symm h0 r1
  have he : a.eval (.const (.slice none 0 0)) = .slice none 0 0 := rfl
  unfold Oper.wp
  simp [execOp, hop, resolve, invoke, builtin, he, hx, hrun, Result.andThen]
  exact hK g9 c9 w' r1 r2

theorem one_state (w : World) (s : ByteArray) (c : Int) : ∀ j u, (flatR [(s, c)])[j]? = some u → (w.alloc (.cells #[.string s, .int .i64 c] 43)).cell? (Addr.add ⟨w.heap.size, 0, none⟩ j) = some u := by
  intro j u h
  rw [Addr.add_lit, cell_first]
  match j, h with
  | 0, h => exact h
  | 1, h => exact h
theorem flatR_append (A C : List (ByteArray × Int)) : flatR (A ++ C) = flatR A ++ flatR C := by simp [flatR]
theorem OWN_base {W : World} {B b n g c : Nat} {L : List Value} (h : W.ownsRow B 43 2 (.slice (some ⟨g, 0, none⟩) n c) n L) (hb : b ≤ B) (k : Nat) (e : (Value.slice (some ⟨g, 0, none⟩) n c).ownBlock = some k) : b ≤ k := by
  rcases h.2 with ⟨e', _⟩ | ⟨g', cap, cur, e', hg, _⟩
  · cases e'
  · injection e' with e1 _ _; injection e1 with e1; injection e1 with e1 _ _
    have e9 : some g = some k := e
    injection e9 with e9
    omega
theorem scell (w : World) (s : ByteArray) (c : Int) (w' : World) (h : (w.alloc (.cells #[.string s, .int .i64 c] 43)).drew.grownBy w' none) : w'.cell? ⟨w.heap.size, 0, none⟩ = some (.string s) ∧ w'.cell? ⟨w.heap.size, 1, none⟩ = some (.int .i64 c) := by
  have e0 : ∀ a, (w.alloc (.cells #[.string s, .int .i64 c] 43)).drew.cell? a = (w.alloc (.cells #[.string s, .int .i64 c] 43)).cell? a := fun _ => rfl
  exact ⟨h.cell (by rw [e0]; simp) (by simp), h.cell (by rw [e0]; simp) (by simp)⟩
/-- The three cells of the reference's Undo. -/
def RCells (W : World) (r : Nat) (v : Value) (a o : Int) : Prop := Typed W r 51 ∧ W.cell? ⟨r, 0, none⟩ = some v ∧ W.cell? ⟨r, 1, none⟩ = some (.int .i64 a) ∧ W.cell? ⟨r, 2, none⟩ = some (.int .i64 o) ∧ ∀ j, W.frozen? ⟨r, j, none⟩ = false
theorem RAt.cells {W : World} {B r : Nat} {L : List (ByteArray × Int)} {at1 : Nat} {o : Int} (h : RAt W B r L at1 o) : ∃ v, RCells W r v at1 o := by
  obtain ⟨h0, g, off, cap, ht, h1, h2, h3, h4, _⟩ := h
  exact ⟨_, ht, h1, h2, h3, h4⟩
theorem RCells.set0 {W : World} {r : Nat} {v : Value} {a o : Int} (h : RCells W r v a o) (u : Value) : RCells (W.setCell ⟨r, 0, none⟩ u) r u a o :=
  ⟨h.1.setCell _ _, World.cell?_setCell_same _ _ _ h.2.1, (World.cell?_setCell_other _ _ _ _ (by simp)).trans h.2.2.1, (World.cell?_setCell_other _ _ _ _ (by simp)).trans h.2.2.2.1, fun j => by rw [World.frozen?_setCell]; exact h.2.2.2.2 j⟩
theorem RCells.set1 {W : World} {r : Nat} {v : Value} {a o : Int} (h : RCells W r v a o) (u : Int) : RCells (W.setCell ⟨r, 1, none⟩ (.int .i64 u)) r v u o :=
  ⟨h.1.setCell _ _, (World.cell?_setCell_other _ _ _ _ (by simp)).trans h.2.1, World.cell?_setCell_same _ _ _ h.2.2.1, (World.cell?_setCell_other _ _ _ _ (by simp)).trans h.2.2.2.1, fun j => by rw [World.frozen?_setCell]; exact h.2.2.2.2 j⟩
theorem RCells.set2 {W : World} {r : Nat} {v : Value} {a o : Int} (h : RCells W r v a o) (u : Int) : RCells (W.setCell ⟨r, 2, none⟩ (.int .i64 u)) r v a u :=
  ⟨h.1.setCell _ _, (World.cell?_setCell_other _ _ _ _ (by simp)).trans h.2.1, (World.cell?_setCell_other _ _ _ _ (by simp)).trans h.2.2.1, World.cell?_setCell_same _ _ _ h.2.2.2.1, fun j => by rw [World.frozen?_setCell]; exact h.2.2.2.2 j⟩
theorem rset_end {w V W : World} {B r g8 off8 c8 n at' : Nat} {L' : List (ByteArray × Int)} {o' : Int} {v0 : Value} {a0 o0 : Int} (hBr : B ≤ r) (hB : B ≤ w.heap.size) (hV : RCells V r v0 a0 o0) (hbV : Below w.heap.size w V) (ht : Typed V g8 43) (hn : L'.length = n) (hcap : n ≤ c8) (hat : at' < n)
    (hcells : ∀ j u, (flatR L')[j]? = some u → V.cell? ⟨g8, off8 + j, none⟩ = some u) (hs : V.grownBy W (some r)) (hW : RCells W r (.slice (some ⟨g8, off8, none⟩) n c8) (at' : Nat) o') : RAt W B r L' at' o' ∧ KeptR w W ∧ Below B w W := by
  subst hn
  have hgr : g8 ≠ r := ht.ne hV.1 (by decide)
  have hgb : W.heap[g8]? = V.heap[g8]? := by
    obtain ⟨c, fz, hh⟩ := ht
    exact hs.block g8 (Array.getElem?_eq_some_iff.1 hh).1 (fun e => by injection e with e; exact hgr e)
  exact ⟨⟨hBr, g8, off8, c8, hW.1, hW.2.1, hW.2.2.1, hW.2.2.2.1, hW.2.2.2.2, ht.same hgb, hcap, hat, fun j u hu => (World.cell?_of_block (a := ⟨g8, off8 + j, none⟩) hgb).trans (hcells j u hu)⟩,
    (KeptR.of_below hbV).grown hs (fun k e => by injection e with e; subst e; exact .inr hV.1), below_grown (hbV.mono hB) hs (Nat.le_trans hB hbV.size) fun k e => by injection e with e; omega⟩
theorem row0 {W : World} {g : Nat} {L : List (ByteArray × Int)} (h : ∀ j u, (flatR L)[j]? = some u → W.cell? ⟨g, j, none⟩ = some u) : ∀ j u, (flatR L)[j]? = some u → W.cell? ⟨g, 0 + j, none⟩ = some u := fun j u hu => by rw [Nat.zero_add]; exact h j u hu

attribute [local go_sem] cell_same in
set_option maxHeartbeats 2000000 in
theorem rdo_other (B r : Nat) (L : List (ByteArray × Int)) (at1 : Nat) (o grp c : Int) (s : ByteArray) (w : World) (h : RAt w B r L at1 o) (hB : B ≤ w.heap.size) (hl : L.length ≤ 900) (hg : grp ≤ 0 ∨ grp ≠ o) (hshort : at1 + 2 ≤ 101) :
    Calls Try.prog 21 #[.pointer (some ⟨r, 0, none⟩), .string s, .int .i64 c, .int .i64 grp] w fun e w' => e = .returned (.tuple #[]) ∧ RAt w' B r (L.take (at1 + 1) ++ [(s, c)]) (at1 + 1) (max grp 0) ∧ KeptR w w' ∧ Below B w w' := by
  obtain ⟨i0, hi, hz0, hz1, hz2⟩ := info_parts info_rs
  have H := hide h
  have HB := hide hB
  obtain ⟨h0, g, off, cap, ht, h1, h2, h3, h4, h5, h6, h7, h8⟩ := h
  have l1 := World.block_lt_of_cell? _ _ h1
  have hb0 : Below w.heap.size w (w.alloc (.cells #[.string s, .int .i64 c] 43)).drew := below_drewNu ((Below.refl _ _).alloc (Nat.le_refl _) _) 1
  have hH2 := H.out.below hb0
  obtain ⟨-, g2, off2, cap2, -, k1, -, -, -, -, -, -, k8⟩ := hH2
  have hgg : g2 = g ∧ off2 = off := by
    have := (hb0.cell (p := ⟨r, 0, none⟩) l1).trans h1
    rw [k1] at this
    injection this with this; injection this with this _ _; injection this with this; injection this with e1 e2
    exact ⟨e1, e2⟩
  obtain ⟨rfl, rfl⟩ := hgg
  have HN := hide (rcells k8 (at1 + 1))
  have HTL := hide (show (L.take (at1 + 1)).length = at1 + 1 by rw [List.length_take]; omega)
  have HB0 := hide hb0
  have hwr : IntKind.i64.wrap ((at1 : Int) + 1) = ((at1 + 1 : Nat) : Int) := by rw [Go.wrap_small _ (by omega) (by omega)]; omega
  have hac : at1 + 1 ≤ cap := by omega
  have hac1 : (at1 : Int) + 1 ≤ (cap : Int) := by omega
  have hac0 : 0 ≤ (at1 : Int) + 1 := by omega
  clear h8 hB k1 k8 hb0
  have hns : ¬ (101 : Int) < ((at1 + 1 + 1 : Nat) : Int) := by omega
  by_cases hgp : 0 < grp
  · have hne : (o == grp) = false := by rcases hg with h | h; exact absurd h (by omega); simpa using Ne.symm h
    go_enter Try.func21, Try.ntmps21
    go_wp2_with fail
    go_region_law (refine step_rcopy rfl (.tmp 22) rfl g2 off2 (at1 + 1) cap (L.take (at1 + 1)) (by simp [Act.eval, Act.put]) HTL.out (by omega) (by omega) HN.out ?_; intro g9 c9 w' hown hgr; have OWN := hide hown; have GR := hide hgr; have hb1 : Below w.heap.size w w' := below_grown HB0.out hgr HB0.out.size (fun k e => by cases e); have HB1 := hide hb1; have hAt := H.out.below hb1; obtain ⟨-, g', off', cap', ht', h1', h2', h3', h4', -⟩ := hAt; have hlr := World.block_lt_of_cell? _ _ h1'; have hcc := scell w s c w' hgr; obtain ⟨q0, q1⟩ := hcc; clear hown hgr hb1)
    all_goals go_wp2_with (at_builtin; refine wpList_append_own _ rfl _ _ 49 rfl (w.alloc (.cells #[.string s, .int .i64 c] 43)).drew.heap.size 43 i0 (.agg #[.string ⟨#[]⟩, .int .i64 0]) 2 24 Try.underlying49 hi hz0 hz1 hz2 rfl (by decide) _ _ _ rfl (OWN.out.alloc _) ⟨w'.heap.size, 0, none⟩ 1 1 (flatR [(s, c)]) rfl rfl (one_state w' s c) (flatR_ones _) (by unfold maxLen; omega) (by omega) (by have := GR.out.size; simp at this ⊢; omega) ?_; intro v2 w2 hown2 hgr2 _; obtain ⟨g8, c8, e8, ro8⟩ := ROwn.of_own (n := at1 + 1 + 1) (L := L.take (at1 + 1) ++ [(s, c)]) (by rw [List.length_append, HTL.out]; rfl) (by omega) (by rw [flatR_append]; exact hown2); rw [e8]; clear e8 hown2; have RO8 := hide ro8; have hb2 : Below w.heap.size w w2 := below_grown (HB1.out.alloc HB1.out.size _) hgr2 (Nat.le_trans HB1.out.size (by simp)) (fun k e => OWN_base OWN.out HB0.out.size k e); have HB2 := hide hb2; have hAt2 := H.out.below hb2; obtain ⟨-, g3, off3, cap3, ht3, h13, h23, h33, h43, -⟩ := hAt2; have hlr2 := World.block_lt_of_cell? _ _ h13; clear hb2 hgr2)
    all_goals go_end0
    all_goals (
      obtain ⟨vv, hRC⟩ := (H.out.below HB2.out).cells
      have hm : max grp 0 = grp := by omega
      rw [hm]
      exact ⟨rfl, rset_end h0 HB.out hRC HB2.out RO8.out.2.1 (by rw [List.length_append, HTL.out]; rfl) (by have := RO8.out.2.2.1; rw [List.length_append, HTL.out] at this; exact this) (by omega) (row0 RO8.out.2.2.2.2) ((((grown_setCell _ _ _ _).trans (grown_setCell _ _ _ _)).trans (grown_setCell _ _ _ _)).trans (grown_setCell _ _ _ _)) ((((hRC.set0 _).set1 _).set2 _).set2 _)⟩)
  · go_enter Try.func21, Try.ntmps21
    go_wp2_with fail
    go_region_law (refine step_rcopy rfl (.tmp 22) rfl g2 off2 (at1 + 1) cap (L.take (at1 + 1)) (by simp [Act.eval, Act.put]) HTL.out (by omega) (by omega) HN.out ?_; intro g9 c9 w' hown hgr; have OWN := hide hown; have GR := hide hgr; have hb1 : Below w.heap.size w w' := below_grown HB0.out hgr HB0.out.size (fun k e => by cases e); have HB1 := hide hb1; have hAt := H.out.below hb1; obtain ⟨-, g', off', cap', ht', h1', h2', h3', h4', -⟩ := hAt; have hlr := World.block_lt_of_cell? _ _ h1'; have hcc := scell w s c w' hgr; obtain ⟨q0, q1⟩ := hcc; clear hown hgr hb1)
    all_goals go_wp2_with (at_builtin; refine wpList_append_own _ rfl _ _ 49 rfl (w.alloc (.cells #[.string s, .int .i64 c] 43)).drew.heap.size 43 i0 (.agg #[.string ⟨#[]⟩, .int .i64 0]) 2 24 Try.underlying49 hi hz0 hz1 hz2 rfl (by decide) _ _ _ rfl (OWN.out.alloc _) ⟨w'.heap.size, 0, none⟩ 1 1 (flatR [(s, c)]) rfl rfl (one_state w' s c) (flatR_ones _) (by unfold maxLen; omega) (by omega) (by have := GR.out.size; simp at this ⊢; omega) ?_; intro v2 w2 hown2 hgr2 _; obtain ⟨g8, c8, e8, ro8⟩ := ROwn.of_own (n := at1 + 1 + 1) (L := L.take (at1 + 1) ++ [(s, c)]) (by rw [List.length_append, HTL.out]; rfl) (by omega) (by rw [flatR_append]; exact hown2); rw [e8]; clear e8 hown2; have RO8 := hide ro8; have hb2 : Below w.heap.size w w2 := below_grown (HB1.out.alloc HB1.out.size _) hgr2 (Nat.le_trans HB1.out.size (by simp)) (fun k e => OWN_base OWN.out HB0.out.size k e); have HB2 := hide hb2; have hAt2 := H.out.below hb2; obtain ⟨-, g3, off3, cap3, ht3, h13, h23, h33, h43, -⟩ := hAt2; have hlr2 := World.block_lt_of_cell? _ _ h13; clear hb2 hgr2)
    all_goals go_end0
    all_goals (
      obtain ⟨vv, hRC⟩ := (H.out.below HB2.out).cells
      have hm : max grp 0 = 0 := by omega
      rw [hm]
      exact ⟨rfl, rset_end h0 HB.out hRC HB2.out RO8.out.2.1 (by rw [List.length_append, HTL.out]; rfl) (by have := RO8.out.2.2.1; rw [List.length_append, HTL.out] at this; exact this) (by omega) (row0 RO8.out.2.2.2.2) (((grown_setCell _ _ _ _).trans (grown_setCell _ _ _ _)).trans (grown_setCell _ _ _ _)) (((hRC.set0 _).set1 _).set2 _)⟩)
end Go.Proofs.Ytgpcpfohfoeclaa
