/- The reference's Do, within a group. -/
import Derived.Test.YtgpcpfohfoeclaaUrdo2
namespace Go.Proofs.Ytgpcpfohfoeclaa
open Go.RowKit

theorem r_drew {w W : World} {B r : Nat} {L : List (ByteArray × Int)} {at1 : Nat} {o : Int} (h : RAt W B r L at1 o ∧ KeptR w W ∧ Below B w W) : RAt W.drew B r L at1 o ∧ KeptR w W.drew ∧ Below B w W.drew := by
  have hb : Below W.heap.size W W.drew := below_drewNu (Below.refl _ _) 1
  exact ⟨h.1.below hb, h.2.1.trans (KeptR.of_below hb), below_drewNu h.2.2 1⟩
theorem same_end {w w' : World} {B r g9 c9 at1 n : Nat} {L M : List (ByteArray × Int)} {o c o' : Int} {s : ByteArray} (h : RAt w B r L at1 o) (hb : Below w.heap.size w w') (hB : B ≤ w.heap.size) (ro : ROwn w' n g9 c9 M) (hM : M.length = at1 + 1) (hgr : ¬ g9 = r) (W V : World)
    (hs : V.grownBy W (some r)) (hR : ∀ v, RCells V r v at1 o → RCells W r (.slice (some ⟨g9, 0, none⟩) (at1 + 1) c9) (at1 : Nat) o') (hn : w.heap.size ≤ n) (hV : V = (w'.setCell ⟨g9, at1 * 2, none⟩ (.string s)).setCell ⟨g9, at1 * 2 + 1, none⟩ (.int .i64 c)) :
    RAt W B r (M.set at1 (s, c)) at1 o' ∧ KeptR w W ∧ Below B w W := by
  subst hV
  obtain ⟨y, hy⟩ : ∃ y, M[at1]? = some y := ⟨_, List.getElem?_eq_getElem (by omega)⟩
  obtain ⟨v, ht, k0, k1, k2, kf⟩ := (h.below hb).cells
  have hrg : ¬ r = g9 := fun e => hgr e.symm
  have hRV : RCells ((w'.setCell ⟨g9, at1 * 2, none⟩ (.string s)).setCell ⟨g9, at1 * 2 + 1, none⟩ (.int .i64 c)) r v at1 o :=
    ⟨(ht.setCell _ _).setCell _ _, (World.cell?_setCell_other _ _ _ _ (by simp [hgr, hrg])).trans ((World.cell?_setCell_other _ _ _ _ (by simp [hgr, hrg])).trans k0), (World.cell?_setCell_other _ _ _ _ (by simp [hgr, hrg])).trans ((World.cell?_setCell_other _ _ _ _ (by simp [hgr, hrg])).trans k1),
      (World.cell?_setCell_other _ _ _ _ (by simp [hgr, hrg])).trans ((World.cell?_setCell_other _ _ _ _ (by simp [hgr, hrg])).trans k2), fun j => by rw [World.frozen?_setCell, World.frozen?_setCell]; exact kf j⟩
  have hbV : Below w.heap.size w ((w'.setCell ⟨g9, at1 * 2, none⟩ (.string s)).setCell ⟨g9, at1 * 2 + 1, none⟩ (.int .i64 c)) := (hb.setCell (p := ⟨g9, at1 * 2, none⟩) (Nat.le_trans hn ro.1) _).setCell (p := ⟨g9, at1 * 2 + 1, none⟩) (Nat.le_trans hn ro.1) _
  refine rset_end h.1 hB hRV hbV ((ro.2.1.setCell _ _).setCell _ _) (by rw [List.length_set]; exact hM) (by have := ro.2.2.1; omega) (by omega) (row0 fun j u hu => ?_) hs (hR v hRV)
  rw [flatR_set M at1 (by omega)] at hu
  by_cases h1 : j = at1 * 2 + 1
  · subst h1
    rw [List.getElem?_set_self (by rw [List.length_set]; exact (List.getElem?_eq_some_iff.1 (flatR_at hy).2).1)] at hu
    injection hu with hu
    subst hu
    exact World.cell?_setCell_same _ _ _ ((World.cell?_setCell_other _ _ _ _ (by simp)).trans (ro.2.2.2.2 _ _ (flatR_at hy).2))
  · rw [List.getElem?_set_ne (Ne.symm h1)] at hu
    rw [World.cell?_setCell_other _ _ _ _ (by simp [h1, Ne.symm h1])]
    by_cases h2 : j = at1 * 2
    · subst h2
      rw [List.getElem?_set_self (List.getElem?_eq_some_iff.1 (flatR_at hy).1).1] at hu
      injection hu with hu
      subst hu
      exact World.cell?_setCell_same _ _ _ (ro.2.2.2.2 _ _ (flatR_at hy).1)
    · rw [List.getElem?_set_ne (Ne.symm h2)] at hu
      rw [World.cell?_setCell_other _ _ _ _ (by simp [h2, Ne.symm h2])]
      exact ro.2.2.2.2 j u hu

attribute [local go_sem] cell_same in
set_option maxHeartbeats 2000000 in
theorem rdo_same (B r : Nat) (L : List (ByteArray × Int)) (at1 : Nat) (o grp c : Int) (s : ByteArray) (w : World) (h : RAt w B r L at1 o) (hB : B ≤ w.heap.size) (hl : L.length ≤ 900) (hg : 0 < grp) (hgo : o = grp) (hat : at1 + 1 ≤ 101) :
    Calls Try.prog 21 #[.pointer (some ⟨r, 0, none⟩), .string s, .int .i64 c, .int .i64 grp] w fun e w' => e = .returned (.tuple #[]) ∧ RAt w' B r ((L.take (at1 + 1)).set at1 (s, c)) at1 grp ∧ KeptR w w' ∧ Below B w w' := by
  obtain ⟨i0, hi, hz0, hz1, hz2⟩ := info_parts info_rs
  have H := hide h
  have HB := hide hB
  obtain ⟨h0, g, off, cap, ht, h1, h2, h3, h4, h5, h6, h7, h8⟩ := h
  have l1 := World.block_lt_of_cell? _ _ h1
  have hb0 : Below w.heap.size w (w.alloc (.cells #[.string s, .int .i64 c] 43)).drew := below_drewNu ((Below.refl _ _).alloc (Nat.le_refl _) _) 1
  have hH2 := H.out.below hb0
  obtain ⟨-, g2, off2, cap2, -, k1, -, -, -, -, -, -, k8⟩ := hH2
  have hgg : g2 = g ∧ off2 = off := by
    have := (hb0.cell (p := ⟨r, 0, none⟩) l1).trans h1
    rw [k1] at this
    injection this with this; injection this with this _ _; injection this with this; injection this with e1 e2
    exact ⟨e1, e2⟩
  obtain ⟨rfl, rfl⟩ := hgg
  have HN := hide (rcells k8 (at1 + 1))
  have HTL := hide (show (L.take (at1 + 1)).length = at1 + 1 by rw [List.length_take]; omega)
  have HB0 := hide hb0
  have hwr : IntKind.i64.wrap ((at1 : Int) + 1) = ((at1 + 1 : Nat) : Int) := by rw [Go.wrap_small _ (by omega) (by omega)]; omega
  have hac : at1 + 1 ≤ cap := by omega
  have hac1 : (at1 : Int) + 1 ≤ (cap : Int) := by omega
  have hac0 : 0 ≤ (at1 : Int) + 1 := by omega
  clear h8 hB k1 k8 hb0
  have hns : ¬ (101 : Int) < ((at1 + 1 : Nat) : Int) := by omega
  have hns2 : (at1 : Int) + 1 ≤ 101 := by omega
  go_enter Try.func21, Try.ntmps21
  go_wp2_with fail
  go_region_law (refine step_rcopy rfl (.tmp 22) rfl g2 off2 (at1 + 1) cap (L.take (at1 + 1)) (by simp [Act.eval, Act.put]) HTL.out (by omega) (by omega) HN.out ?_; intro g9 c9 w' hown hgr; have OWN := hide hown; have GR := hide hgr; have hb1 : Below w.heap.size w w' := below_grown HB0.out hgr HB0.out.size (fun k e => by cases e); have HB1 := hide hb1; have hAt := H.out.below hb1; obtain ⟨-, g', off', cap', ht', h1', h2', h3', h4', -⟩ := hAt; have hlr := World.block_lt_of_cell? _ _ h1'; have hcc := scell w s c w' hgr; obtain ⟨q0, q1⟩ := hcc; obtain ⟨g7, c7, e7, ro7⟩ := ROwn.of_own (n := at1 + 1) (L := L.take (at1 + 1)) HTL.out.symm (by omega) hown; injection e7 with e71 _ e72; injection e71 with e71; injection e71 with e71 _ _; subst e71 e72; have RO7 := hide ro7; obtain ⟨y, hy⟩ : ∃ y, (L.take (at1 + 1))[at1]? = some y := ⟨_, List.getElem?_eq_getElem (by rw [HTL.out]; omega)⟩; have hy0 := ro7.2.2.2.2 _ _ (flatR_at hy).1; have hy1 := ro7.2.2.2.2 _ _ (flatR_at hy).2; have hyf := ro7.2.2.2.1; have hgl := World.block_lt_of_cell? _ _ hy0; have hgr9 : ¬ g9 = r := ro7.2.1.ne ht' (by decide); have hrg9 : ¬ r = g9 := fun e => hgr9 e.symm; clear hown hgr hb1 ro7)
  all_goals go_wp2_with fail
  all_goals go_region
  all_goals go_wp2_with fail
  all_goals go_end0
  all_goals exact ⟨rfl, r_drew (same_end H.out HB1.out HB.out RO7.out HTL.out hgr9 _ _ ((((grown_setCell _ _ _ _).trans (grown_setCell _ _ _ _)).trans (grown_setCell _ _ _ _)).trans (grown_setCell _ _ _ _)) (fun v hRC => (((hRC.set0 _).set1 _).set2 _).set2 _) HB0.out.size rfl)⟩
end Go.Proofs.Ytgpcpfohfoeclaa
