/- Contracts of grids.Diff and limnerref06.Diff. -/
import Derived.Test.YtojjdckpbmjjdaaDoorGfr
import Derived.Test.YtojjdckpbmjjdaaDoorGkeep
namespace Go.Proofs.YtojjdckpbmjjdaaDoor
open Go.RowKit

theorem diff_no {f g : Fr} (h : diffOk f g = false) : diffF f g = -1 := by unfold diffF; rw [h]; rfl
theorem diff_yes {f g : Fr} (h : diffOk f g = true) : diffF f g = ((diffTo f.cs g.cs f.cs.length : Nat) : Int) := by unfold diffF; rw [if_pos h]
theorem diffTo_step {A B : List Cl} {i : Nat} {c d : Cl} (hc : A[i]? = some c) (hd : B[i]? = some d) : diffTo A B (i + 1) = diffTo A B i + if sameC c d = true then 0 else 1 := by
  rw [diffTo, hc, hd]
  congr 1
  unfold sameC
  by_cases e : c = d
  · simp [e]
  · simp [e]
set_option maxRecDepth 100000 in
set_option maxHeartbeats 4000000 in
theorem diff_frame (f g : Fr) (v v' : Value) (w : World) (h : FrAt w v f) (h' : FrAt w v' g) (hT : WTabs w) :
    Calls Tryd.prog 22 #[v, v'] w fun e w' => e = .returned (.int .i64 (diffF f g)) ∧ Below w.heap.size w w' := by
  obtain ⟨A, cap, rfl, hc, hcap, hcl⟩ := h
  obtain ⟨A', cap', rfl, hc', hcap', hcl'⟩ := h'
  obtain ⟨rows, cols, cs, row, col⟩ := f
  obtain ⟨rows', cols', cs', row', col'⟩ := g
  obtain ⟨n, hn⟩ : ∃ n, cs.length = n := ⟨_, rfl⟩
  obtain ⟨m, hm⟩ : ∃ m, cs'.length = m := ⟨_, rfl⟩
  have HFR := hide (show ∀ W, Below w.heap.size w W → FrAt W (frV ⟨rows, cols, cs, row, col⟩ A n cap) ⟨rows, cols, cs, row, col⟩ from fun W hW => ⟨A, cap, by dsimp only; rw [hn], hc, hcap, hcl.below hW⟩)
  have HFR' := hide (show ∀ W, Below w.heap.size w W → FrAt W (frV ⟨rows', cols', cs', row', col'⟩ A' m cap') ⟨rows', cols', cs', row', col'⟩ from fun W hW => ⟨A', cap', by dsimp only; rw [hm], hc', hcap', hcl'.below hW⟩)
  have HN := hide hn
  have HM := hide hm
  have HCL := hide hcl
  have HCL' := hide hcl'
  have HT := hide hT
  unfold frV at HFR HFR' ⊢
  dsimp only at hc hc' HFR HFR' HCL HCL' ⊢
  rw [hn] at hc ⊢
  rw [hm] at hc' ⊢
  clear hcl hcl' hn hm hT
  have HK1 := hide ((Blk.new w 28 (frCells rows cols (.slice A n cap) row col)).alloc (.cells (frCells rows' cols' (.slice A' m cap') row' col').toArray 28))
  have HK2 := hide (Blk.new (w.alloc (.cells (frCells rows cols (.slice A n cap) row col).toArray 28)) 28 (frCells rows' cols' (.slice A' m cap') row' col'))
  rw [World.size_alloc] at HK2
  have HB0 := hide (show Below w.heap.size w ((w.alloc (.cells (frCells rows cols (.slice A n cap) row col).toArray 28)).alloc (.cells (frCells rows' cols' (.slice A' m cap') row' col').toArray 28)) from ((Below.refl _ _).alloc (Nat.le_refl _) _).alloc (by simp) _)
  by_cases hv : validF ⟨rows, cols, cs, row, col⟩ = true
  case neg =>
    have hv0 : validF ⟨rows, cols, cs, row, col⟩ = false := by simpa using hv
    have HV := hide hv0
    have HP := hide (diff_no (f := ⟨rows, cols, cs, row, col⟩) (g := ⟨rows', cols', cs', row', col'⟩) (by unfold diffOk; rw [hv0]; rfl))
    clear hv hv0
    go_enter Tryd.func22, Tryd.ntmps22
    go_wp2_with (first
      | (go_at_call 26; refine (valid_is ⟨rows, cols, cs, row, col⟩ _ HV.out _ _ (HFR.out _ HB0.out) (HT.out.below HB0.out)).mono ?_; rintro e w1 ⟨rfl, hb1⟩; have HK3 := hide (HK1.out.below hb1); have HK4 := hide (HK2.out.below hb1); have HB1 := hide (HB0.out.trans (hb1.mono HB0.out.size)); obtain ⟨k0, k1, k2, k3, k4, kf⟩ := fr_reads HK3.out; obtain ⟨l0, l1, l2, l3, l4, lf⟩ := fr_reads HK4.out; clear hb1)
      | fail)
    go_ret
    exact ⟨ret_cells HP.out.symm, HB1.out⟩
  have HV := hide hv
  by_cases hv' : validF ⟨rows', cols', cs', row', col'⟩ = true
  case neg =>
    have hv0 : validF ⟨rows', cols', cs', row', col'⟩ = false := by simpa using hv'
    have HV' := hide hv0
    have HP := hide (diff_no (f := ⟨rows, cols, cs, row, col⟩) (g := ⟨rows', cols', cs', row', col'⟩) (by unfold diffOk; rw [hv0]; simp))
    clear hv hv' hv0
    go_enter Tryd.func22, Tryd.ntmps22
    go_wp2_with (first
      | (go_at_call 26; refine (valid_is ⟨rows', cols', cs', row', col'⟩ _ HV'.out _ _ (HFR'.out _ HB1.out) (HT.out.below HB1.out)).mono ?_; rintro e w2 ⟨rfl, hb2⟩; have HK5 := hide (HK3.out.below hb2); have HK6 := hide (HK4.out.below hb2); have HB2 := hide (HB1.out.trans (hb2.mono HB1.out.size)); clear k0 k1 k2 k3 k4 kf l0 l1 l2 l3 l4 lf hb2; obtain ⟨k0, k1, k2, k3, k4, kf⟩ := fr_reads HK5.out; obtain ⟨l0, l1, l2, l3, l4, lf⟩ := fr_reads HK6.out)
      | (go_at_call 26; refine (valid_is ⟨rows, cols, cs, row, col⟩ _ HV.out _ _ (HFR.out _ HB0.out) (HT.out.below HB0.out)).mono ?_; rintro e w1 ⟨rfl, hb1⟩; have HK3 := hide (HK1.out.below hb1); have HK4 := hide (HK2.out.below hb1); have HB1 := hide (HB0.out.trans (hb1.mono HB0.out.size)); obtain ⟨k0, k1, k2, k3, k4, kf⟩ := fr_reads HK3.out; obtain ⟨l0, l1, l2, l3, l4, lf⟩ := fr_reads HK4.out; clear hb1)
      | fail)
    go_ret
    exact ⟨ret_cells HP.out.symm, HB2.out⟩
  have HV' := hide hv'
  by_cases h1 : rows = rows'
  case neg =>
    have HP := hide (diff_no (f := ⟨rows, cols, cs, row, col⟩) (g := ⟨rows', cols', cs', row', col'⟩) (by unfold diffOk; dsimp only; rw [decide_eq_false h1]; simp))
    clear hv hv'
    go_enter Tryd.func22, Tryd.ntmps22
    go_wp2_with (first
      | (go_at_call 26; refine (valid_is ⟨rows', cols', cs', row', col'⟩ _ HV'.out _ _ (HFR'.out _ HB1.out) (HT.out.below HB1.out)).mono ?_; rintro e w2 ⟨rfl, hb2⟩; have HK5 := hide (HK3.out.below hb2); have HK6 := hide (HK4.out.below hb2); have HB2 := hide (HB1.out.trans (hb2.mono HB1.out.size)); clear k0 k1 k2 k3 k4 kf l0 l1 l2 l3 l4 lf hb2; obtain ⟨k0, k1, k2, k3, k4, kf⟩ := fr_reads HK5.out; obtain ⟨l0, l1, l2, l3, l4, lf⟩ := fr_reads HK6.out)
      | (go_at_call 26; refine (valid_is ⟨rows, cols, cs, row, col⟩ _ HV.out _ _ (HFR.out _ HB0.out) (HT.out.below HB0.out)).mono ?_; rintro e w1 ⟨rfl, hb1⟩; have HK3 := hide (HK1.out.below hb1); have HK4 := hide (HK2.out.below hb1); have HB1 := hide (HB0.out.trans (hb1.mono HB0.out.size)); obtain ⟨k0, k1, k2, k3, k4, kf⟩ := fr_reads HK3.out; obtain ⟨l0, l1, l2, l3, l4, lf⟩ := fr_reads HK4.out; clear hb1)
      | fail)
    go_ret
    exact ⟨ret_cells HP.out.symm, HB2.out⟩
  by_cases h2 : cols = cols'
  case neg =>
    have HP := hide (diff_no (f := ⟨rows, cols, cs, row, col⟩) (g := ⟨rows', cols', cs', row', col'⟩) (by unfold diffOk; dsimp only; rw [decide_eq_false h2]; simp))
    subst h1
    clear hv hv'
    go_enter Tryd.func22, Tryd.ntmps22
    go_wp2_with (first
      | (go_at_call 26; refine (valid_is ⟨rows, cols', cs', row', col'⟩ _ HV'.out _ _ (HFR'.out _ HB1.out) (HT.out.below HB1.out)).mono ?_; rintro e w2 ⟨rfl, hb2⟩; have HK5 := hide (HK3.out.below hb2); have HK6 := hide (HK4.out.below hb2); have HB2 := hide (HB1.out.trans (hb2.mono HB1.out.size)); clear k0 k1 k2 k3 k4 kf l0 l1 l2 l3 l4 lf hb2; obtain ⟨k0, k1, k2, k3, k4, kf⟩ := fr_reads HK5.out; obtain ⟨l0, l1, l2, l3, l4, lf⟩ := fr_reads HK6.out)
      | (go_at_call 26; refine (valid_is ⟨rows, cols, cs, row, col⟩ _ HV.out _ _ (HFR.out _ HB0.out) (HT.out.below HB0.out)).mono ?_; rintro e w1 ⟨rfl, hb1⟩; have HK3 := hide (HK1.out.below hb1); have HK4 := hide (HK2.out.below hb1); have HB1 := hide (HB0.out.trans (hb1.mono HB0.out.size)); obtain ⟨k0, k1, k2, k3, k4, kf⟩ := fr_reads HK3.out; obtain ⟨l0, l1, l2, l3, l4, lf⟩ := fr_reads HK4.out; clear hb1)
      | fail)
    go_ret
    exact ⟨ret_cells HP.out.symm, HB2.out⟩
  have HP := hide (diff_yes (f := ⟨rows, cols, cs, row, col⟩) (g := ⟨rows', cols', cs', row', col'⟩) (by unfold diffOk; dsimp only; rw [hv, hv', decide_eq_true h1, decide_eq_true h2]; rfl))
  obtain ⟨R, C, hR, hC, b1, b2, b3, b4, hL, -⟩ := valid_facts hv
  obtain ⟨R', C', hR', hC', -, -, -, -, hL', -⟩ := valid_facts hv'
  dsimp only at hR hC hR' hC' hL hL'
  subst h1 h2
  have e1 : R' = R := by omega
  have e2 : C' = C := by omega
  have hsz := (size_small b1 b2 b3 b4).2
  have hnm : n = m := by rw [← HN.out, ← HM.out, hL, hL', e1, e2]
  subst hnm
  rw [← hL, HN.out] at hsz
  dsimp only at HP
  rw [HN.out] at HP
  clear hv hv' hR hC hR' hC' hL hL' e1 e2
  go_enter Tryd.func22, Tryd.ntmps22
  go_wp2_with (first
    | (go_at_call 26; refine (valid_is ⟨rows, cols, cs', row', col'⟩ _ HV'.out _ _ (HFR'.out _ HB1.out) (HT.out.below HB1.out)).mono ?_; rintro e w2 ⟨rfl, hb2⟩; have HK5 := hide (HK3.out.below hb2); have HK6 := hide (HK4.out.below hb2); have HB2 := hide (HB1.out.trans (hb2.mono HB1.out.size)); clear k0 k1 k2 k3 k4 kf l0 l1 l2 l3 l4 lf hb2; obtain ⟨k0, k1, k2, k3, k4, kf⟩ := fr_reads HK5.out; obtain ⟨l0, l1, l2, l3, l4, lf⟩ := fr_reads HK6.out)
    | (go_at_call 26; refine (valid_is ⟨rows, cols, cs, row, col⟩ _ HV.out _ _ (HFR.out _ HB0.out) (HT.out.below HB0.out)).mono ?_; rintro e w1 ⟨rfl, hb1⟩; have HK3 := hide (HK1.out.below hb1); have HK4 := hide (HK2.out.below hb1); have HB1 := hide (HB0.out.trans (hb1.mono HB0.out.size)); obtain ⟨k0, k1, k2, k3, k4, kf⟩ := fr_reads HK3.out; obtain ⟨l0, l1, l2, l3, l4, lf⟩ := fr_reads HK4.out; clear hb1)
    | fail)
  go_loopw [5, 33] (fun nv iv wr => ∃ i k : Nat, nv = .int .i64 k ∧ iv = .int .i64 i ∧ i ≤ n ∧ k ≤ i ∧ Hid (k = diffTo cs cs' i) ∧ Hid (Blk wr w.heap.size 28 (frCells rows cols (.slice A n cap) row col)) ∧ Hid (Blk wr (w.heap.size + 1) 28 (frCells rows cols (.slice A' n cap') row' col')) ∧ Hid (Below w.heap.size w wr)) (fun _ iv _ => n - (intOf iv).toNat)
  case atStart => exact ⟨0, 0, rfl, rfl, by omega, by omega, hide rfl, HK5, HK6, HB2⟩
  case round =>
    clear HK1 HK2 HK3 HK4 HK5 HK6 HB0 HB1 HB2 k0 k1 k2 k3 k4 kf l0 l1 l2 l3 l4 lf
    obtain ⟨i, k, rfl, rfl, hi, hki, HD, HK1, HK2, HB⟩ := hrel
    have k2 := HK1.out.cell (i := 2) rfl
    have l2 := HK2.out.cell (i := 2) rfl
    by_cases hlt : i < n
    · obtain ⟨c, hci⟩ : ∃ c, cs[i]? = some c := ⟨_, List.getElem?_eq_getElem (show i < cs.length by rw [HN.out]; exact hlt)⟩
      obtain ⟨d, hdi⟩ : ∃ d, cs'[i]? = some d := ⟨_, List.getElem?_eq_getElem (show i < cs'.length by rw [HM.out]; exact hlt)⟩
      obtain ⟨b, o, rfl⟩ := at_inj HCL.out (show i < cs.length by rw [HN.out]; exact hlt)
      obtain ⟨b', o', rfl⟩ := at_inj HCL'.out (show i < cs'.length by rw [HM.out]; exact hlt)
      obtain ⟨g0, g1, g2, g3, g4, g5⟩ := (show ClsAt wr _ _ from HCL.out.below HB.out).get hci
      have HST := hide (diffTo_step hci hdi)
      clear hci
      obtain ⟨r, wd, fg, bo, un, iv⟩ := c
      obtain ⟨r', wd', fg', bo', un', iv'⟩ := d
      dsimp only at g0 g1 g2 g3 g4 g5
      have HDI := hide hdi
      clear hdi
      have HZ := hide (Blk.new wr 52 [.int .i32 r, .int .i64 wd, .int .i64 fg, .bool bo, .bool un, .bool iv])
      have HA := hide (show Below wr.heap.size wr (wr.alloc (.cells #[.int .i32 r, .int .i64 wd, .int .i64 fg, .bool bo, .bool un, .bool iv] 52)) from (Below.refl _ _).alloc (Nat.le_refl _) _)
      have HK3 := hide (HK1.out.below HA.out)
      have HK4 := hide (HK2.out.below HA.out)
      have HB3 := hide (HB.out.trans (HA.out.mono HB.out.size))
      go_wp2
      obtain ⟨W1, hW1⟩ : ∃ W1, wr.alloc (.cells #[.int .i32 r, .int .i64 wd, .int .i64 fg, .bool bo, .bool un, .bool iv] 52) = W1 := ⟨_, rfl⟩
      have HZ1 := hide (show Blk (wr.alloc (.cells #[.int .i32 r, .int .i64 wd, .int .i64 fg, .bool bo, .bool un, .bool iv] 52)) wr.heap.size 52 [.int .i32 r, .int .i64 wd, .int .i64 fg, .bool bo, .bool un, .bool iv] from HZ.out)
      rw [hW1] at HZ1 HK3 HK4 HB3 ⊢
      clear hW1 HZ HA HK1 HK2 HB k2 l2 g0 g1 g2 g3 g4 g5
      have l2 := HK4.out.cell (i := 2) rfl
      have z0 := HZ1.out.cell (i := 0) rfl
      have z1 := HZ1.out.cell (i := 1) rfl
      have z2 := HZ1.out.cell (i := 2) rfl
      have z3 := HZ1.out.cell (i := 3) rfl
      have z4 := HZ1.out.cell (i := 4) rfl
      have z5 := HZ1.out.cell (i := 5) rfl
      obtain ⟨e0, e1, e2, e3, e4, e5⟩ := (show ClsAt W1 _ _ from HCL'.out.below HB3.out).get HDI.out
      dsimp only at e0 e1 e2 e3 e4 e5
      cases hs : sameC ⟨r, wd, fg, bo, un, iv⟩ ⟨r', wd', fg', bo', un', iv'⟩ with
      | true =>
        rw [hs] at HST
        go_region
        all_goals go_wp2
        go_roundw
        case rel => exact ⟨i + 1, k, by go_num, by go_num, by omega, by omega, hide (by rw [HST.out, HD.out]; rfl), HK3, HK4, hide (below_drewG HB3.out _)⟩
        case measure => simp [intOf]; omega
      | false =>
        rw [hs] at HST
        go_region
        all_goals go_wp2
        go_roundw
        case rel => exact ⟨i + 1, k + 1, by go_num, by go_num, by omega, by omega, hide (by rw [HST.out, HD.out]; rfl), HK3, HK4, hide (below_drewG HB3.out _)⟩
        case measure => simp [intOf]; omega
    · obtain rfl : i = n := by omega
      go_wp2
      go_ret
      exact ⟨ret_cells (by rw [HP.out, ← HD.out]), HB.out⟩
set_option maxRecDepth 100000 in
set_option maxHeartbeats 4000000 in
theorem rdiff_frame (f g : Fr) (v v' : Value) (w : World) (h : FrAt w v f) (h' : FrAt w v' g) :
    Calls Tryd.prog 23 #[v, v'] w fun e w' => e = .returned (.int .i64 (diffF f g)) ∧ Below w.heap.size w w' := by
  obtain ⟨A, cap, rfl, hc, hcap, hcl⟩ := h
  obtain ⟨A', cap', rfl, hc', hcap', hcl'⟩ := h'
  obtain ⟨rows, cols, cs, row, col⟩ := f
  obtain ⟨rows', cols', cs', row', col'⟩ := g
  obtain ⟨n, hn⟩ : ∃ n, cs.length = n := ⟨_, rfl⟩
  obtain ⟨m, hm⟩ : ∃ m, cs'.length = m := ⟨_, rfl⟩
  have HFR := hide (show ∀ W, Below w.heap.size w W → FrAt W (frV ⟨rows, cols, cs, row, col⟩ A n cap) ⟨rows, cols, cs, row, col⟩ from fun W hW => ⟨A, cap, by dsimp only; rw [hn], hc, hcap, hcl.below hW⟩)
  have HFR' := hide (show ∀ W, Below w.heap.size w W → FrAt W (frV ⟨rows', cols', cs', row', col'⟩ A' m cap') ⟨rows', cols', cs', row', col'⟩ from fun W hW => ⟨A', cap', by dsimp only; rw [hm], hc', hcap', hcl'.below hW⟩)
  have HN := hide hn
  have HM := hide hm
  have HCL := hide hcl
  have HCL' := hide hcl'
  unfold frV at HFR HFR' ⊢
  dsimp only at hc hc' HFR HFR' HCL HCL' ⊢
  rw [hn] at hc ⊢
  rw [hm] at hc' ⊢
  clear hcl hcl' hn hm
  have HK1 := hide ((Blk.new w 28 (frCells rows cols (.slice A n cap) row col)).alloc (.cells (frCells rows' cols' (.slice A' m cap') row' col').toArray 28))
  have HK2 := hide (Blk.new (w.alloc (.cells (frCells rows cols (.slice A n cap) row col).toArray 28)) 28 (frCells rows' cols' (.slice A' m cap') row' col'))
  rw [World.size_alloc] at HK2
  have HB0 := hide (show Below w.heap.size w ((w.alloc (.cells (frCells rows cols (.slice A n cap) row col).toArray 28)).alloc (.cells (frCells rows' cols' (.slice A' m cap') row' col').toArray 28)) from ((Below.refl _ _).alloc (Nat.le_refl _) _).alloc (by simp) _)
  by_cases hv : validF ⟨rows, cols, cs, row, col⟩ = true
  case neg =>
    have hv0 : validF ⟨rows, cols, cs, row, col⟩ = false := by simpa using hv
    have HV := hide hv0
    have HP := hide (diff_no (f := ⟨rows, cols, cs, row, col⟩) (g := ⟨rows', cols', cs', row', col'⟩) (by unfold diffOk; rw [hv0]; rfl))
    clear hv hv0
    go_enter Tryd.func23, Tryd.ntmps23
    go_wp2_with (first
      | (go_at_call 27; refine (rvalid_is ⟨rows, cols, cs, row, col⟩ _ HV.out _ _ (HFR.out _ HB0.out)).mono ?_; rintro e w1 ⟨rfl, hb1⟩; have HK3 := hide (HK1.out.below hb1); have HK4 := hide (HK2.out.below hb1); have HB1 := hide (HB0.out.trans (hb1.mono HB0.out.size)); obtain ⟨k0, k1, k2, k3, k4, kf⟩ := fr_reads HK3.out; obtain ⟨l0, l1, l2, l3, l4, lf⟩ := fr_reads HK4.out; clear hb1)
      | fail)
    go_ret
    exact ⟨ret_cells HP.out.symm, HB1.out⟩
  have HV := hide hv
  by_cases hv' : validF ⟨rows', cols', cs', row', col'⟩ = true
  case neg =>
    have hv0 : validF ⟨rows', cols', cs', row', col'⟩ = false := by simpa using hv'
    have HV' := hide hv0
    have HP := hide (diff_no (f := ⟨rows, cols, cs, row, col⟩) (g := ⟨rows', cols', cs', row', col'⟩) (by unfold diffOk; rw [hv0]; simp))
    clear hv hv' hv0
    go_enter Tryd.func23, Tryd.ntmps23
    go_wp2_with (first
      | (go_at_call 27; refine (rvalid_is ⟨rows', cols', cs', row', col'⟩ _ HV'.out _ _ (HFR'.out _ HB1.out)).mono ?_; rintro e w2 ⟨rfl, hb2⟩; have HK5 := hide (HK3.out.below hb2); have HK6 := hide (HK4.out.below hb2); have HB2 := hide (HB1.out.trans (hb2.mono HB1.out.size)); clear k0 k1 k2 k3 k4 kf l0 l1 l2 l3 l4 lf hb2; obtain ⟨k0, k1, k2, k3, k4, kf⟩ := fr_reads HK5.out; obtain ⟨l0, l1, l2, l3, l4, lf⟩ := fr_reads HK6.out)
      | (go_at_call 27; refine (rvalid_is ⟨rows, cols, cs, row, col⟩ _ HV.out _ _ (HFR.out _ HB0.out)).mono ?_; rintro e w1 ⟨rfl, hb1⟩; have HK3 := hide (HK1.out.below hb1); have HK4 := hide (HK2.out.below hb1); have HB1 := hide (HB0.out.trans (hb1.mono HB0.out.size)); obtain ⟨k0, k1, k2, k3, k4, kf⟩ := fr_reads HK3.out; obtain ⟨l0, l1, l2, l3, l4, lf⟩ := fr_reads HK4.out; clear hb1)
      | fail)
    go_ret
    exact ⟨ret_cells HP.out.symm, HB2.out⟩
  have HV' := hide hv'
  by_cases h1 : rows = rows'
  case neg =>
    have HP := hide (diff_no (f := ⟨rows, cols, cs, row, col⟩) (g := ⟨rows', cols', cs', row', col'⟩) (by unfold diffOk; dsimp only; rw [decide_eq_false h1]; simp))
    clear hv hv'
    go_enter Tryd.func23, Tryd.ntmps23
    go_wp2_with (first
      | (go_at_call 27; refine (rvalid_is ⟨rows', cols', cs', row', col'⟩ _ HV'.out _ _ (HFR'.out _ HB1.out)).mono ?_; rintro e w2 ⟨rfl, hb2⟩; have HK5 := hide (HK3.out.below hb2); have HK6 := hide (HK4.out.below hb2); have HB2 := hide (HB1.out.trans (hb2.mono HB1.out.size)); clear k0 k1 k2 k3 k4 kf l0 l1 l2 l3 l4 lf hb2; obtain ⟨k0, k1, k2, k3, k4, kf⟩ := fr_reads HK5.out; obtain ⟨l0, l1, l2, l3, l4, lf⟩ := fr_reads HK6.out)
      | (go_at_call 27; refine (rvalid_is ⟨rows, cols, cs, row, col⟩ _ HV.out _ _ (HFR.out _ HB0.out)).mono ?_; rintro e w1 ⟨rfl, hb1⟩; have HK3 := hide (HK1.out.below hb1); have HK4 := hide (HK2.out.below hb1); have HB1 := hide (HB0.out.trans (hb1.mono HB0.out.size)); obtain ⟨k0, k1, k2, k3, k4, kf⟩ := fr_reads HK3.out; obtain ⟨l0, l1, l2, l3, l4, lf⟩ := fr_reads HK4.out; clear hb1)
      | fail)
    go_ret
    exact ⟨ret_cells HP.out.symm, HB2.out⟩
  by_cases h2 : cols = cols'
  case neg =>
    have HP := hide (diff_no (f := ⟨rows, cols, cs, row, col⟩) (g := ⟨rows', cols', cs', row', col'⟩) (by unfold diffOk; dsimp only; rw [decide_eq_false h2]; simp))
    subst h1
    clear hv hv'
    go_enter Tryd.func23, Tryd.ntmps23
    go_wp2_with (first
      | (go_at_call 27; refine (rvalid_is ⟨rows, cols', cs', row', col'⟩ _ HV'.out _ _ (HFR'.out _ HB1.out)).mono ?_; rintro e w2 ⟨rfl, hb2⟩; have HK5 := hide (HK3.out.below hb2); have HK6 := hide (HK4.out.below hb2); have HB2 := hide (HB1.out.trans (hb2.mono HB1.out.size)); clear k0 k1 k2 k3 k4 kf l0 l1 l2 l3 l4 lf hb2; obtain ⟨k0, k1, k2, k3, k4, kf⟩ := fr_reads HK5.out; obtain ⟨l0, l1, l2, l3, l4, lf⟩ := fr_reads HK6.out)
      | (go_at_call 27; refine (rvalid_is ⟨rows, cols, cs, row, col⟩ _ HV.out _ _ (HFR.out _ HB0.out)).mono ?_; rintro e w1 ⟨rfl, hb1⟩; have HK3 := hide (HK1.out.below hb1); have HK4 := hide (HK2.out.below hb1); have HB1 := hide (HB0.out.trans (hb1.mono HB0.out.size)); obtain ⟨k0, k1, k2, k3, k4, kf⟩ := fr_reads HK3.out; obtain ⟨l0, l1, l2, l3, l4, lf⟩ := fr_reads HK4.out; clear hb1)
      | fail)
    go_ret
    exact ⟨ret_cells HP.out.symm, HB2.out⟩
  have HP := hide (diff_yes (f := ⟨rows, cols, cs, row, col⟩) (g := ⟨rows', cols', cs', row', col'⟩) (by unfold diffOk; dsimp only; rw [hv, hv', decide_eq_true h1, decide_eq_true h2]; rfl))
  obtain ⟨R, C, hR, hC, b1, b2, b3, b4, hL, -⟩ := valid_facts hv
  obtain ⟨R', C', hR', hC', -, -, -, -, hL', -⟩ := valid_facts hv'
  dsimp only at hR hC hR' hC' hL hL'
  subst h1 h2
  have e1 : R' = R := by omega
  have e2 : C' = C := by omega
  have hsz := (size_small b1 b2 b3 b4).2
  have hnm : n = m := by rw [← HN.out, ← HM.out, hL, hL', e1, e2]
  subst hnm
  rw [← hL, HN.out] at hsz
  dsimp only at HP
  rw [HN.out] at HP
  clear hv hv' hR hC hR' hC' hL hL' e1 e2
  go_enter Tryd.func23, Tryd.ntmps23
  go_wp2_with (first
    | (go_at_call 27; refine (rvalid_is ⟨rows, cols, cs', row', col'⟩ _ HV'.out _ _ (HFR'.out _ HB1.out)).mono ?_; rintro e w2 ⟨rfl, hb2⟩; have HK5 := hide (HK3.out.below hb2); have HK6 := hide (HK4.out.below hb2); have HB2 := hide (HB1.out.trans (hb2.mono HB1.out.size)); clear k0 k1 k2 k3 k4 kf l0 l1 l2 l3 l4 lf hb2; obtain ⟨k0, k1, k2, k3, k4, kf⟩ := fr_reads HK5.out; obtain ⟨l0, l1, l2, l3, l4, lf⟩ := fr_reads HK6.out)
    | (go_at_call 27; refine (rvalid_is ⟨rows, cols, cs, row, col⟩ _ HV.out _ _ (HFR.out _ HB0.out)).mono ?_; rintro e w1 ⟨rfl, hb1⟩; have HK3 := hide (HK1.out.below hb1); have HK4 := hide (HK2.out.below hb1); have HB1 := hide (HB0.out.trans (hb1.mono HB0.out.size)); obtain ⟨k0, k1, k2, k3, k4, kf⟩ := fr_reads HK3.out; obtain ⟨l0, l1, l2, l3, l4, lf⟩ := fr_reads HK4.out; clear hb1)
    | fail)
  go_loopw [5, 6] (fun nv iv wr => ∃ i k : Nat, nv = .int .i64 k ∧ iv = .int .i64 i ∧ i ≤ n ∧ k ≤ i ∧ Hid (k = diffTo cs cs' i) ∧ Hid (Blk wr w.heap.size 28 (frCells rows cols (.slice A n cap) row col)) ∧ Hid (Blk wr (w.heap.size + 1) 28 (frCells rows cols (.slice A' n cap') row' col')) ∧ Hid (Below w.heap.size w wr)) (fun _ iv _ => n - (intOf iv).toNat)
  case atStart => exact ⟨0, 0, rfl, rfl, by omega, by omega, hide rfl, HK5, HK6, HB2⟩
  case round =>
    clear HK1 HK2 HK3 HK4 HK5 HK6 HB0 HB1 HB2 k0 k1 k2 k3 k4 kf l0 l1 l2 l3 l4 lf
    obtain ⟨i, k, rfl, rfl, hi, hki, HD, HK1, HK2, HB⟩ := hrel
    have k2 := HK1.out.cell (i := 2) rfl
    have l2 := HK2.out.cell (i := 2) rfl
    by_cases hlt : i < n
    · obtain ⟨c, hci⟩ : ∃ c, cs[i]? = some c := ⟨_, List.getElem?_eq_getElem (show i < cs.length by rw [HN.out]; exact hlt)⟩
      obtain ⟨d, hdi⟩ : ∃ d, cs'[i]? = some d := ⟨_, List.getElem?_eq_getElem (show i < cs'.length by rw [HM.out]; exact hlt)⟩
      obtain ⟨b, o, rfl⟩ := at_inj HCL.out (show i < cs.length by rw [HN.out]; exact hlt)
      obtain ⟨b', o', rfl⟩ := at_inj HCL'.out (show i < cs'.length by rw [HM.out]; exact hlt)
      obtain ⟨g0, g1, g2, g3, g4, g5⟩ := (show ClsAt wr _ _ from HCL.out.below HB.out).get hci
      have HST := hide (diffTo_step hci hdi)
      obtain ⟨e0, e1, e2, e3, e4, e5⟩ := (show ClsAt wr _ _ from HCL'.out.below HB.out).get hdi
      clear hci
      obtain ⟨r, wd, fg, bo, un, iv⟩ := c
      obtain ⟨r', wd', fg', bo', un', iv'⟩ := d
      dsimp only at g0 g1 g2 g3 g4 g5 e0 e1 e2 e3 e4 e5
      clear hdi
      cases hs : sameC ⟨r, wd, fg, bo, un, iv⟩ ⟨r', wd', fg', bo', un', iv'⟩ with
      | true =>
        rw [hs] at HST
        go_wp2
        go_region
        all_goals go_wp2
        go_roundw
        case rel => exact ⟨i + 1, k, by go_num, by go_num, by omega, by omega, hide (by rw [HST.out, HD.out]; rfl), HK1, HK2, hide (below_drewG HB.out _)⟩
        case measure => simp [intOf]; omega
      | false =>
        rw [hs] at HST
        go_wp2
        go_region
        all_goals go_wp2
        go_roundw
        case rel => exact ⟨i + 1, k + 1, by go_num, by go_num, by omega, by omega, hide (by rw [HST.out, HD.out]; rfl), HK1, HK2, hide (below_drewG HB.out _)⟩
        case measure => simp [intOf]; omega
    · obtain rfl : i = n := by omega
      go_wp2
      go_ret
      exact ⟨ret_cells (by rw [HP.out, ← HD.out]), HB.out⟩
end Go.Proofs.YtojjdckpbmjjdaaDoor
