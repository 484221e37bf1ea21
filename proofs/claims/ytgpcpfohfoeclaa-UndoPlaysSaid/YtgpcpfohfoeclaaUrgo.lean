/- The reference's Go. -/
import Derived.Test.YtgpcpfohfoeclaaUref
import Derived.Laws.BitsLemmas
namespace Go.Proofs.Ytgpcpfohfoeclaa
open Go.RowKit

theorem RAt.set {W : World} {B r : Nat} {L : List (ByteArray × Int)} {at1 : Nat} {o : Int} (h : RAt W B r L at1 o) (m : Nat) (hm : m < L.length) (o' : Int) : RAt ((W.setCell ⟨r, 1, none⟩ (.int .i64 (m : Nat))).setCell ⟨r, 2, none⟩ (.int .i64 o')) B r L m o' := by
  obtain ⟨h0, g, off, cap, ht, h1, h2, h3, h4, h5, h6, h7, h8⟩ := h
  have hgr : g ≠ r := h5.ne ht (by decide)
  have hs1 := grown_setCell W r 1 (.int .i64 (m : Nat))
  have hs2 := grown_setCell (W.setCell ⟨r, 1, none⟩ (.int .i64 (m : Nat))) r 2 (.int .i64 o')
  refine ⟨h0, g, off, cap, (ht.setCell _ _).setCell _ _, (World.cell?_setCell_other _ _ _ _ (by simp)).trans ((World.cell?_setCell_other _ _ _ _ (by simp)).trans h1), (World.cell?_setCell_other _ _ _ _ (by simp)).trans (World.cell?_setCell_same _ _ _ h2),
    World.cell?_setCell_same _ _ _ ((World.cell?_setCell_other _ _ _ _ (by simp)).trans h3), fun j => by rw [World.frozen?_setCell, World.frozen?_setCell]; exact h4 j, (h5.setCell _ _).setCell _ _, h6, hm, fun j u hu => ?_⟩
  rw [World.cell?_setCell_other _ _ _ _ (by simp [hgr]), World.cell?_setCell_other _ _ _ _ (by simp [hgr])]
  exact h8 j u hu

/-- The result's own cells, in every later world. -/
theorem fresh_cells (w : World) (r : Nat) (hne : ¬ w.heap.size = r) (nq m : Nat) (W : World) (hb : Below ((((w.alloc (.cells #[.string ⟨#[]⟩, .int .i64 0] 43)).drewN nq).setCell ⟨r, 1, none⟩ (.int .i64 (m : Nat))).setCell ⟨r, 2, none⟩ (.int .i64 0)).heap.size ((((w.alloc (.cells #[.string ⟨#[]⟩, .int .i64 0] 43)).drewN nq).setCell ⟨r, 1, none⟩ (.int .i64 (m : Nat))).setCell ⟨r, 2, none⟩ (.int .i64 0)) W) :
    W.cell? ⟨w.heap.size, 0, none⟩ = some (.string ⟨#[]⟩) ∧ W.cell? ⟨w.heap.size, 1, none⟩ = some (.int .i64 0) ∧ ∀ j, W.frozen? ⟨w.heap.size, j, none⟩ = false := by
  have e0 : ∀ a, ((w.alloc (.cells #[.string ⟨#[]⟩, .int .i64 0] 43)).drewN nq).cell? a = (w.alloc (.cells #[.string ⟨#[]⟩, .int .i64 0] 43)).cell? a := fun _ => rfl
  have e1 : ∀ a, ((w.alloc (.cells #[.string ⟨#[]⟩, .int .i64 0] 43)).drewN nq).frozen? a = (w.alloc (.cells #[.string ⟨#[]⟩, .int .i64 0] 43)).frozen? a := fun _ => rfl
  have h0 : ((((w.alloc (.cells #[.string ⟨#[]⟩, .int .i64 0] 43)).drewN nq).setCell ⟨r, 1, none⟩ (.int .i64 (m : Nat))).setCell ⟨r, 2, none⟩ (.int .i64 0)).cell? ⟨w.heap.size, 0, none⟩ = some (.string ⟨#[]⟩) := by
    rw [World.cell?_setCell_other _ _ _ _ (by simp), World.cell?_setCell_other _ _ _ _ (by simp), e0]; simp
  have h1 : ((((w.alloc (.cells #[.string ⟨#[]⟩, .int .i64 0] 43)).drewN nq).setCell ⟨r, 1, none⟩ (.int .i64 (m : Nat))).setCell ⟨r, 2, none⟩ (.int .i64 0)).cell? ⟨w.heap.size, 1, none⟩ = some (.int .i64 0) := by
    rw [World.cell?_setCell_other _ _ _ _ (by simp), World.cell?_setCell_other _ _ _ _ (by simp [hne]), e0]; simp
  have hlt := World.block_lt_of_cell? _ _ h0
  refine ⟨(hb.cell (p := ⟨w.heap.size, 0, none⟩) hlt).trans h0, (hb.cell (p := ⟨w.heap.size, 1, none⟩) hlt).trans h1, fun j => ?_⟩
  rw [hb.frozen (p := ⟨w.heap.size, j, none⟩) hlt, World.frozen?_setCell, World.frozen?_setCell, e1, frozen?_alloc_cells]
  simp [World.frozen?]
theorem none_end (w : World) (nq : Nat) (a b : Value) : Below w.heap.size w ((((w.alloc (.cells #[.string ⟨#[]⟩, .int .i64 0] 43)).drewN nq).setCell ⟨w.heap.size, 0, none⟩ a).setCell ⟨w.heap.size, 1, none⟩ b) :=
  ((below_drewNu ((Below.refl _ _).alloc (Nat.le_refl _) _) nq).setCell (p := ⟨w.heap.size, 0, none⟩) (Nat.le_refl _) a).setCell (p := ⟨w.heap.size, 1, none⟩) (Nat.le_refl _) b
theorem go_end {B r : Nat} {L : List (ByteArray × Int)} {m n : Nat} {o : Int} {w w1 : World} {a b : Value} (h : RAt w1 B r L m o) (hk : KeptR w w1) (hb : Below B w w1) (hB : B ≤ w.heap.size) (hn : w.heap.size = n) (hne : ¬ n = r) (hg : ∀ g off cap, w1.cell? ⟨r, 0, none⟩ = some (.slice (some ⟨g, off, none⟩) L.length cap) → g ≠ n) :
    RAt ((w1.setCell ⟨n, 0, none⟩ a).setCell ⟨n, 1, none⟩ b) B r L m o ∧ KeptR w ((w1.setCell ⟨n, 0, none⟩ a).setCell ⟨n, 1, none⟩ b) ∧ Below B w ((w1.setCell ⟨n, 0, none⟩ a).setCell ⟨n, 1, none⟩ b) := by
  subst hn
  have hs := (grown_setCell w1 w.heap.size 0 a).trans (grown_setCell (w1.setCell ⟨w.heap.size, 0, none⟩ a) w.heap.size 1 b)
  refine ⟨?_, ⟨Nat.le_trans hk.1 hs.size, fun i c t fz hi h1 h2 => ?_⟩, below_grown hb hs (Nat.le_trans hB hk.1) fun k e => by injection e with e; omega⟩
  · obtain ⟨h0, g, off, cap, ht, h1, h2, h3, h4, h5, h6, h7, h8⟩ := h
    have hgn := hg g off cap h1
    have hr := hs.block r (World.block_lt_of_cell? _ _ h1) (fun e => by injection e with e; exact hne e.symm)
    have hgb : ((w1.setCell ⟨w.heap.size, 0, none⟩ a).setCell ⟨w.heap.size, 1, none⟩ b).heap[g]? = w1.heap[g]? := by
      obtain ⟨c, fz, hh⟩ := h5
      exact hs.block g (Array.getElem?_eq_some_iff.1 hh).1 (fun e => by injection e with e; exact hgn e)
    exact ⟨h0, g, off, cap, ht.same hr, (World.cell?_of_block (a := ⟨r, 0, none⟩) hr).trans h1, (World.cell?_of_block (a := ⟨r, 1, none⟩) hr).trans h2, (World.cell?_of_block (a := ⟨r, 2, none⟩) hr).trans h3, fun j => (World.frozen?_of_block (a := ⟨r, j, none⟩) hr).trans (h4 j), h5.same hgb, h6, h7,
      fun j u hu => (World.cell?_of_block (a := ⟨g, off + j, none⟩) hgb).trans (h8 j u hu)⟩
  · have h3 := hk.2 i c t fz hi h1 h2
    have hlt := (Array.getElem?_eq_some_iff.1 hi).1
    rw [hs.block i (Array.getElem?_eq_some_iff.1 h3).1 (fun e => by injection e with e; omega)]
    exact h3

attribute [local go_sem] cell_same in
set_option maxHeartbeats 2000000 in
/-- It goes on, or back. -/
theorem rgo_any (B r : Nat) (L : List (ByteArray × Int)) (at1 m : Nat) (o way : Int) (x : ByteArray × Int) (w : World) (h : RAt w B r L at1 o) (hB : B ≤ w.heap.size) (hx : L[m]? = some x) (hm : (at1 : Int) + way = (m : Int)) (hl : L.length ≤ 1000) (hw : -1000 ≤ way) (hw2 : way ≤ 1000) :
    Calls Try.prog 18 #[.pointer (some ⟨r, 0, none⟩), .int .i64 way] w fun e w' => e = .returned (.tuple #[.agg #[.string x.1, .int .i64 x.2], .bool true]) ∧ RAt w' B r L m 0 ∧ KeptR w w' ∧ Below B w w' := by
  have hml := (List.getElem?_eq_some_iff.1 hx).1
  have H := hide h
  have HB := hide hB
  obtain ⟨h0, g, off, cap, ht, h1, h2, h3, h4, h5, h6, h7, h8⟩ := h
  have l1 := World.block_lt_of_cell? _ _ h1
  have lg : g < w.heap.size := by obtain ⟨c, fz, hh⟩ := h5; exact (Array.getElem?_eq_some_iff.1 hh).1
  have hwr : IntKind.i64.wrap ((at1 : Int) + way) = (m : Int) := by rw [Go.wrap_small _ (by omega) (by omega)]; exact hm
  have hwm : IntKind.i64.wrap (m : Int) = (m : Int) := Go.wrap_small _ (by omega) (by omega)
  have hn : ¬ (L.length : Int) ≤ (m : Int) := by omega
  clear h8 hB
  go_enter Try.func18, Try.ntmps18
  go_wp2_with fail
  go_quiet (fail)
  go_wp2_with fail
  have hbA : Below w.heap.size w ((w.alloc (.cells #[.string ⟨#[]⟩, .int .i64 0] 43)).drewN nq) := below_drewNu ((Below.refl _ _).alloc (Nat.le_refl _) _) nq
  have hV := (H.out.below hbA).set m hml 0
  have hg1 := grown_setCell ((w.alloc (.cells #[.string ⟨#[]⟩, .int .i64 0] 43)).drewN nq) r 1 (.int .i64 (m : Nat))
  have hg2 := grown_setCell (((w.alloc (.cells #[.string ⟨#[]⟩, .int .i64 0] 43)).drewN nq).setCell ⟨r, 1, none⟩ (.int .i64 (m : Nat))) r 2 (.int .i64 0)
  have hkV := ((KeptR.of_below hbA).grown hg1 (fun k e => by injection e with e; subst e; exact .inr (ht.below hbA))).grown hg2 (fun k e => by injection e with e; subst e; exact .inr ((ht.below hbA).setCell _ _))
  have hbV : Below B w _ := below_grown (below_grown (hbA.mono HB.out) hg1 (Nat.le_trans HB.out hbA.size) fun k e => by injection e with e; omega) hg2 (Nat.le_trans HB.out (Nat.le_trans hbA.size hg1.size)) fun k e => by injection e with e; omega
  have hne : ¬ w.heap.size = r := by omega
  have hc0 := fresh_cells w r hne nq m
  have HG0 := hide ((World.cell?_setCell_other (((w.alloc (.cells #[.string ⟨#[]⟩, .int .i64 0] 43)).drewN nq).setCell ⟨r, 1, none⟩ (.int .i64 (m : Nat))) ⟨r, 2, none⟩ ⟨r, 0, none⟩ (.int .i64 0) (by simp)).trans ((World.cell?_setCell_other _ ⟨r, 1, none⟩ ⟨r, 0, none⟩ (.int .i64 (m : Nat)) (by simp)).trans ((hbA.cell (p := ⟨r, 0, none⟩) l1).trans h1)))
  have HV := hide hV
  have HKV := hide hkV
  have HBV := hide hbV
  have HC0 := hide hc0
  clear hV hkV hbV hc0 hg1 hg2 hbA
  refine (rnow_any B r L m 0 x _ HV.out hx).mono ?_; rintro e w1 ⟨rfl, b1⟩
  have HV1 := hide (HV.out.below b1)
  have HK1 := hide (HKV.out.trans (KeptR.of_below b1))
  have HB1 := hide (HBV.out.trans (b1.mono (Nat.le_trans HB.out HBV.out.size)))
  have HG1 := hide (show w1.cell? ⟨r, 0, none⟩ = some (.slice (some ⟨g, off, none⟩) L.length cap) from (b1.cell (p := ⟨r, 0, none⟩) (World.block_lt_of_cell? _ _ HG0.out)).trans HG0.out)
  obtain ⟨c0, c1, cf⟩ := HC0.out _ b1
  have hl1 := World.block_lt_of_cell? _ _ c0
  clear b1
  go_wp2
  refine bodyPost_ret (by simp [results, Try.results18, go_sem, cell_same, c0, c1]; try rfl) rfl ?_
  exact ⟨rfl, go_end HV1.out HK1.out HB1.out HB.out rfl hne (fun g' off' cap' e => by rw [HG1.out] at e; injection e with e; injection e with e _ _; injection e with e; injection e with e _ _; omega)⟩
attribute [local go_sem] cell_same in
set_option maxHeartbeats 2000000 in
/-- There is nowhere to go. -/
theorem rgo_none (B r : Nat) (L : List (ByteArray × Int)) (at1 : Nat) (o way : Int) (w : World) (h : RAt w B r L at1 o) (hbad : (at1 : Int) + way < 0 ∨ (L.length : Int) ≤ (at1 : Int) + way) (hl : L.length ≤ 1000) (hw : -1000 ≤ way) (hw2 : way ≤ 1000) :
    Calls Try.prog 18 #[.pointer (some ⟨r, 0, none⟩), .int .i64 way] w fun e w' => e = .returned (.tuple #[.agg #[.string ⟨#[]⟩, .int .i64 0], .bool false]) ∧ Below w.heap.size w w' := by
  obtain ⟨h0, g, off, cap, ht, h1, h2, h3, h4, h5, h6, h7, h8⟩ := h
  have l1 := World.block_lt_of_cell? _ _ h1
  obtain ⟨q, hq⟩ : ∃ q : Int, (at1 : Int) + way = q := ⟨_, rfl⟩
  rw [hq] at hbad
  have hwr : IntKind.i64.wrap q = q := by rw [IntKind.wrap_i64]; omega
  clear h8
  by_cases hneg : q < 0
  · go_enter Try.func18, Try.ntmps18
    go_wp2_with fail
    go_quiet (fail)
    go_wp2_with fail
    refine bodyPost_ret (by simp [results, Try.results18, go_sem, cell_same]; try rfl) rfl ?_
    exact ⟨rfl, none_end w _ _ _⟩
  · have hq0 : ¬ q < (L.length : Int) := by omega
    go_enter Try.func18, Try.ntmps18
    go_wp2_with fail
    go_quiet (fail)
    go_wp2_with fail
    refine bodyPost_ret (by simp [results, Try.results18, go_sem, cell_same]; try rfl) rfl ?_
    exact ⟨rfl, none_end w _ _ _⟩
end Go.Proofs.Ytgpcpfohfoeclaa
