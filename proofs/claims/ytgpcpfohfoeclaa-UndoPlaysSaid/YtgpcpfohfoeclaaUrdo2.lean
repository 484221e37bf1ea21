/- The reference's Do, where its list is full, and within a group. -/
import Derived.Test.YtgpcpfohfoeclaaUrdo
namespace Go.Proofs.Ytgpcpfohfoeclaa
open Go.RowKit

theorem row_drop {W : World} {g : Nat} {L : List (ByteArray × Int)} (h : ∀ j u, (flatR L)[j]? = some u → W.cell? ⟨g, j, none⟩ = some u) : ∀ j u, (flatR L.tail)[j]? = some u → W.cell? ⟨g, 2 + j, none⟩ = some u := by
  intro j u hu
  refine h _ u ?_
  cases L with
  | nil => simp [flatR] at hu
  | cons a l =>
    have e : flatR (a :: l) = .string a.1 :: .int .i64 a.2 :: flatR l := rfl
    rw [e, show 2 + j = j + 1 + 1 by omega]
    exact hu
attribute [local go_sem] cell_same in
set_option maxHeartbeats 2000000 in
theorem rdo_long (B r : Nat) (L : List (ByteArray × Int)) (at1 : Nat) (o grp c : Int) (s : ByteArray) (w : World) (h : RAt w B r L at1 o) (hB : B ≤ w.heap.size) (hl : L.length ≤ 900) (hg : grp ≤ 0 ∨ grp ≠ o) (hlong : at1 = 100) :
    Calls Try.prog 21 #[.pointer (some ⟨r, 0, none⟩), .string s, .int .i64 c, .int .i64 grp] w fun e w' => e = .returned (.tuple #[]) ∧ RAt w' B r (L.take (at1 + 1) ++ [(s, c)]).tail at1 (max grp 0) ∧ KeptR w w' ∧ Below B w w' := by
  obtain ⟨i0, hi, hz0, hz1, hz2⟩ := info_parts info_rs
  have H := hide h
  have HB := hide hB
  obtain ⟨h0, g, off, cap, ht, h1, h2, h3, h4, h5, h6, h7, h8⟩ := h
  have l1 := World.block_lt_of_cell? _ _ h1
  have hb0 : Below w.heap.size w (w.alloc (.cells #[.string s, .int .i64 c] 43)).drew := below_drewNu ((Below.refl _ _).alloc (Nat.le_refl _) _) 1
  have hH2 := H.out.below hb0
  obtain ⟨-, g2, off2, cap2, -, k1, -, -, -, -, -, -, k8⟩ := hH2
  have hgg : g2 = g ∧ off2 = off := by
    have := (hb0.cell (p := ⟨r, 0, none⟩) l1).trans h1
    rw [k1] at this
    injection this with this; injection this with this _ _; injection this with this; injection this with e1 e2
    exact ⟨e1, e2⟩
  obtain ⟨rfl, rfl⟩ := hgg
  have HN := hide (rcells k8 (at1 + 1))
  have HTL := hide (show (L.take (at1 + 1)).length = at1 + 1 by rw [List.length_take]; omega)
  have HB0 := hide hb0
  have hwr : IntKind.i64.wrap ((at1 : Int) + 1) = ((at1 + 1 : Nat) : Int) := by rw [Go.wrap_small _ (by omega) (by omega)]; omega
  have hac : at1 + 1 ≤ cap := by omega
  have hac1 : (at1 : Int) + 1 ≤ (cap : Int) := by omega
  have hac0 : 0 ≤ (at1 : Int) + 1 := by omega
  clear h8 hB k1 k8 hb0
  have hns : (101 : Int) < ((at1 + 1 + 1 : Nat) : Int) := by omega
  have HL100 := hide hlong
  clear hlong
  by_cases hgp : 0 < grp
  · have hne : (o == grp) = false := by rcases hg with h | h; exact absurd h (by omega); simpa using Ne.symm h
    go_enter Try.func21, Try.ntmps21
    go_wp2_with fail
    go_region_law (refine step_rcopy rfl (.tmp 22) rfl g2 off2 (at1 + 1) cap (L.take (at1 + 1)) (by simp [Act.eval, Act.put]) HTL.out (by omega) (by omega) HN.out ?_; intro g9 c9 w' hown hgr; have OWN := hide hown; have GR := hide hgr; have hb1 : Below w.heap.size w w' := below_grown HB0.out hgr HB0.out.size (fun k e => by cases e); have HB1 := hide hb1; have hAt := H.out.below hb1; obtain ⟨-, g', off', cap', ht', h1', h2', h3', h4', -⟩ := hAt; have hlr := World.block_lt_of_cell? _ _ h1'; have hcc := scell w s c w' hgr; obtain ⟨q0, q1⟩ := hcc; clear hown hgr hb1)
    all_goals go_wp2_with (at_builtin; refine wpList_append_own _ rfl _ _ 49 rfl (w.alloc (.cells #[.string s, .int .i64 c] 43)).drew.heap.size 43 i0 (.agg #[.string ⟨#[]⟩, .int .i64 0]) 2 24 Try.underlying49 hi hz0 hz1 hz2 rfl (by decide) _ _ _ rfl (OWN.out.alloc _) ⟨w'.heap.size, 0, none⟩ 1 1 (flatR [(s, c)]) rfl rfl (one_state w' s c) (flatR_ones _) (by unfold maxLen; omega) (by omega) (by have := GR.out.size; simp at this ⊢; omega) ?_; intro v2 w2 hown2 hgr2 _; obtain ⟨g8, c8, e8, ro8⟩ := ROwn.of_own (n := at1 + 1 + 1) (L := L.take (at1 + 1) ++ [(s, c)]) (by rw [List.length_append, HTL.out]; rfl) (by omega) (by rw [flatR_append]; exact hown2); rw [e8]; clear e8 hown2; have RO8 := hide ro8; have hc8 : ¬ c8 = 1 := (by have := ro8.2.2.1; rw [List.length_append, HTL.out] at this; simp at this; omega); have hb2 : Below w.heap.size w w2 := below_grown (HB1.out.alloc HB1.out.size _) hgr2 (Nat.le_trans HB1.out.size (by simp)) (fun k e => OWN_base OWN.out HB0.out.size k e); have HB2 := hide hb2; have hAt2 := H.out.below hb2; obtain ⟨-, g3, off3, cap3, ht3, h13, h23, h33, h43, -⟩ := hAt2; have hlr2 := World.block_lt_of_cell? _ _ h13; clear hb2 hgr2)
    all_goals go_end0
    all_goals (
      obtain ⟨vv, hRC⟩ := (H.out.below HB2.out).cells
      have hm : max grp 0 = grp := by omega
      rw [hm]
      exact ⟨rfl, rset_end h0 HB.out hRC HB2.out RO8.out.2.1 (by rw [List.length_tail, List.length_append, HTL.out]; simp) (by have := RO8.out.2.2.1; rw [List.length_append, HTL.out] at this; simp at this; omega) (by omega) (row_drop RO8.out.2.2.2.2) ((((grown_setCell _ _ _ _).trans (grown_setCell _ _ _ _)).trans (grown_setCell _ _ _ _)).trans (grown_setCell _ _ _ _)) ((((hRC.set0 _).set1 _).set2 _).set2 _)⟩)
  · go_enter Try.func21, Try.ntmps21
    go_wp2_with fail
    go_region_law (refine step_rcopy rfl (.tmp 22) rfl g2 off2 (at1 + 1) cap (L.take (at1 + 1)) (by simp [Act.eval, Act.put]) HTL.out (by omega) (by omega) HN.out ?_; intro g9 c9 w' hown hgr; have OWN := hide hown; have GR := hide hgr; have hb1 : Below w.heap.size w w' := below_grown HB0.out hgr HB0.out.size (fun k e => by cases e); have HB1 := hide hb1; have hAt := H.out.below hb1; obtain ⟨-, g', off', cap', ht', h1', h2', h3', h4', -⟩ := hAt; have hlr := World.block_lt_of_cell? _ _ h1'; have hcc := scell w s c w' hgr; obtain ⟨q0, q1⟩ := hcc; clear hown hgr hb1)
    all_goals go_wp2_with (at_builtin; refine wpList_append_own _ rfl _ _ 49 rfl (w.alloc (.cells #[.string s, .int .i64 c] 43)).drew.heap.size 43 i0 (.agg #[.string ⟨#[]⟩, .int .i64 0]) 2 24 Try.underlying49 hi hz0 hz1 hz2 rfl (by decide) _ _ _ rfl (OWN.out.alloc _) ⟨w'.heap.size, 0, none⟩ 1 1 (flatR [(s, c)]) rfl rfl (one_state w' s c) (flatR_ones _) (by unfold maxLen; omega) (by omega) (by have := GR.out.size; simp at this ⊢; omega) ?_; intro v2 w2 hown2 hgr2 _; obtain ⟨g8, c8, e8, ro8⟩ := ROwn.of_own (n := at1 + 1 + 1) (L := L.take (at1 + 1) ++ [(s, c)]) (by rw [List.length_append, HTL.out]; rfl) (by omega) (by rw [flatR_append]; exact hown2); rw [e8]; clear e8 hown2; have RO8 := hide ro8; have hc8 : ¬ c8 = 1 := (by have := ro8.2.2.1; rw [List.length_append, HTL.out] at this; simp at this; omega); have hb2 : Below w.heap.size w w2 := below_grown (HB1.out.alloc HB1.out.size _) hgr2 (Nat.le_trans HB1.out.size (by simp)) (fun k e => OWN_base OWN.out HB0.out.size k e); have HB2 := hide hb2; have hAt2 := H.out.below hb2; obtain ⟨-, g3, off3, cap3, ht3, h13, h23, h33, h43, -⟩ := hAt2; have hlr2 := World.block_lt_of_cell? _ _ h13; clear hb2 hgr2)
    all_goals go_end0
    all_goals (
      obtain ⟨vv, hRC⟩ := (H.out.below HB2.out).cells
      have hm : max grp 0 = 0 := by omega
      rw [hm]
      exact ⟨rfl, rset_end h0 HB.out hRC HB2.out RO8.out.2.1 (by rw [List.length_tail, List.length_append, HTL.out]; simp) (by have := RO8.out.2.2.1; rw [List.length_append, HTL.out] at this; simp at this; omega) (by omega) (row_drop RO8.out.2.2.2.2) (((grown_setCell _ _ _ _).trans (grown_setCell _ _ _ _)).trans (grown_setCell _ _ _ _)) (((hRC.set0 _).set1 _).set2 _)⟩)
end Go.Proofs.Ytgpcpfohfoeclaa
