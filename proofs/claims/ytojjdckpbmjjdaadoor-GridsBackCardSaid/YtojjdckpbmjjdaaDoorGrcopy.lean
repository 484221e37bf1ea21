/- Contract of limnerref06.Copy. -/
import Derived.Test.YtojjdckpbmjjdaaDoorGcopy
namespace Go.Proofs.YtojjdckpbmjjdaaDoor
open Go.RowKit

theorem ownC_of {W : World} {B n : Nat} {v : Value} {L : List Cl} (hn : L.length = n) (h : W.ownsRow B 52 6 v (0 + n) ([] ++ flatC L)) : OwnC W B v L := by
  subst hn
  rw [Nat.zero_add, List.nil_append] at h
  exact h
theorem OwnC.form2 {W : World} {B : Nat} {v : Value} {L : List Cl} (h : OwnC W B v L) : ∃ A c, v = .slice A L.length c ∧ L.length ≤ c ∧ c ≤ maxLen := by
  rcases h.2 with ⟨rfl, h0⟩ | ⟨g, cap, cur, rfl, hg, hh, q, qm, _⟩
  · exact ⟨_, _, by rw [h0], by omega, by unfold maxLen; omega⟩
  · exact ⟨_, _, rfl, q, qm⟩
theorem OwnC.mono {W : World} {B C : Nat} {v : Value} {L : List Cl} (h : OwnC W B v L) (hc : C ≤ B) : OwnC W C v L := by
  refine ⟨h.1, ?_⟩
  rcases h.2 with h0 | ⟨g, cap, cur, rfl, hg, r⟩
  · exact .inl h0
  · exact .inr ⟨g, cap, cur, rfl, by omega, r⟩
theorem OwnC.low {W : World} {B : Nat} {v : Value} {L : List Cl} (h : OwnC W B v L) {p : Addr} (hp : p.block < B) (x : Value) : OwnC (W.setCell p x) B v L := by
  refine ⟨h.1, ?_⟩
  rcases h.2 with h0 | ⟨g, cap, cur, rfl, hg, hh, r⟩
  · exact .inl h0
  · exact .inr ⟨g, cap, cur, rfl, hg, (Below.heap_setCell _ _ _ _ (by omega)).trans hh, r⟩
set_option maxRecDepth 100000 in
set_option maxHeartbeats 1000000 in
theorem rcopy_any (f : Fr) (v : Value) (w : World) (h : FrAt w v f) (h0 : 0 < f.cs.length) (h9 : f.cs.length ≤ 20000) :
    Calls Tryd.prog 16 #[v] w fun e w' => ∃ v', e = .returned v' ∧ FrOwn w' w.heap.size v' f ∧ Below w.heap.size w w' := by
  obtain ⟨A, cap, rfl, hc, hcap, hcl⟩ := h
  obtain ⟨rows, cols, cs, row, col⟩ := f
  unfold frV
  dsimp only at hc hcl h0 h9 ⊢
  obtain ⟨b, o, rfl⟩ := at_inj hcl h0
  obtain ⟨n, hn⟩ : ∃ n, cs.length = n := ⟨_, rfl⟩
  rw [hn] at hc h0 h9 ⊢
  have HN := hide hn
  have HCL := hide hcl
  clear hn hcl
  obtain ⟨i0, hi, hz0, hz1, hz2⟩ := info_parts infoC
  have HK := hide ((Blk.new w 28 (frCells rows cols (.slice (some ⟨b, o, none⟩) n cap) row col)).alloc (.cells (frCells 0 0 (.slice none 0 0) 0 0).toArray 28))
  have HZ := hide (Blk.new (w.alloc (.cells (frCells rows cols (.slice (some ⟨b, o, none⟩) n cap) row col).toArray 28)) 28 (frCells 0 0 (.slice none 0 0) 0 0))
  rw [World.size_alloc] at HZ
  have HB := hide (show Below w.heap.size w ((w.alloc (.cells (frCells rows cols (.slice (some ⟨b, o, none⟩) n cap) row col).toArray 28)).alloc (.cells (frCells 0 0 (.slice none 0 0) 0 0).toArray 28)) from ((Below.refl _ _).alloc (Nat.le_refl _) _).alloc (by simp) _)
  go_enter Tryd.func16, Tryd.ntmps16
  go_wp2_with (first
    | (at_builtin; refine wpList_append_own _ rfl _ _ 26 rfl (w.heap.size + 1 + 1) 52 i0 _ 6 32 Tryd.underlying26 hi hz0 hz1 hz2 (by rfl) (by decide) (.slice none 0 0) 0 [] rfl ⟨rfl, .inl ⟨rfl, rfl⟩⟩ ⟨b, o, none⟩ n cap (flatC cs) rfl (by rw [flatC_len, HN.out]) ((show ClsAt _ _ _ from HCL.out.below HB.out).flat) (flatC_one cs) (by unfold maxLen; omega) (by omega) (by simp) ?_; intro v' w2 hown1 hgr _; have hown := ownC_of HN.out hown1; obtain ⟨A2, c2, hv2, hc2, hcm2⟩ := hown.form2; rw [HN.out] at hv2 hc2; subst hv2; have HOWN := hide hown; have HB2 := hide (HB.out.grown hgr (by simp; omega) (fun k e => by cases e)); have hK2 : Blk w2 w.heap.size 28 (frCells rows cols (.slice (some ⟨b, o, none⟩) n cap) row col) := (hgr.block _ HK.out.lt (by simp [Value.ownBlock])).trans HK.out; have hZ2 : Blk w2 (w.heap.size + 1) 28 (frCells 0 0 (.slice none 0 0) 0 0) := (hgr.block _ HZ.out.lt (by simp [Value.ownBlock])).trans HZ.out; have HK2 := hide hK2; have HZ2 := hide hZ2; have k0 := hK2.cell (i := 0) rfl; have k1 := hK2.cell (i := 1) rfl; have k2 := hK2.cell (i := 2) rfl; have k3 := hK2.cell (i := 3) rfl; have k4 := hK2.cell (i := 4) rfl; have kf := hK2.frozen 2; have z0 := hZ2.cell (i := 0) rfl; have z1 := hZ2.cell (i := 1) rfl; have z2 := hZ2.cell (i := 2) rfl; have z3 := hZ2.cell (i := 3) rfl; have z4 := hZ2.cell (i := 4) rfl; have zf := fun i => hZ2.frozen i; clear hown hown1 hgr hK2 hZ2)
    | fail)
  have hZf := (((((HZ2.out.far (p := ⟨w.heap.size, 2, none⟩) (by simp) (.slice A2 n c2)).set 0 (.int .i64 rows)).set 1 (.int .i64 cols)).set 2 (.slice A2 n c2)).set 3 (.int .i64 row)).set 4 (.int .i64 col)
  have hHf := ((((((HOWN.out.low (p := ⟨w.heap.size, 2, none⟩) (by simp; omega) (.slice A2 n c2)).low (p := ⟨w.heap.size + 1, 0, none⟩) (by simp) (.int .i64 rows)).low (p := ⟨w.heap.size + 1, 1, none⟩) (by simp) (.int .i64 cols)).low (p := ⟨w.heap.size + 1, 2, none⟩) (by simp) (.slice A2 n c2)).low (p := ⟨w.heap.size + 1, 3, none⟩) (by simp) (.int .i64 row)).low (p := ⟨w.heap.size + 1, 4, none⟩) (by simp) (.int .i64 col)).mono (C := w.heap.size) (by omega)
  have hBf := (((((HB2.out.setCell (p := ⟨w.heap.size, 2, none⟩) (Nat.le_refl _) (.slice A2 n c2)).setCell (p := ⟨w.heap.size + 1, 0, none⟩) (by simp) (.int .i64 rows)).setCell (p := ⟨w.heap.size + 1, 1, none⟩) (by simp) (.int .i64 cols)).setCell (p := ⟨w.heap.size + 1, 2, none⟩) (by simp) (.slice A2 n c2)).setCell (p := ⟨w.heap.size + 1, 3, none⟩) (by simp) (.int .i64 row)).setCell (p := ⟨w.heap.size + 1, 4, none⟩) (by simp) (.int .i64 col)
  refine bodyPost_ret (results_cell_row rfl _ _ (w.heap.size + 1) 28 #[.int .i64 rows, .int .i64 cols, .slice A2 n c2, .int .i64 row, .int .i64 col] (0, 0) _ rfl hZf Tryd.underlying28 rfl (by kernel_rfl)) rfl ⟨_, rfl, ⟨A2, c2, ?_, hcm2, ?_⟩, hBf⟩
  · simp [frV, HN.out]
  · simpa [HN.out] using hHf
end Go.Proofs.YtojjdckpbmjjdaaDoor
