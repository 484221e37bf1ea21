/- Contract of grids.Put. -/
import Derived.Test.YtojjdckpbmjjdaaDoorGfr
namespace Go.Proofs.YtojjdckpbmjjdaaDoor
open Go.RowKit

theorem putF_bad {f : Fr} {row col : Int} {x : Cl} (h : validF f = false) : putF f row col x = noF := by unfold putF; rw [h]; rfl
theorem putF_not {f : Fr} {row col : Int} {x : Cl} (h : validF f = true) (hk : okP f row col x = false) : putF f row col x = f := by unfold putF; rw [if_pos h, hk]; rfl
theorem putF_ok {f : Fr} {row col : Int} {x : Cl} (h : validF f = true) (hk : okP f row col x = true) : putF f row col x = ⟨f.rows, f.cols, putL f.cs (row * f.cols + col).toNat (cells x.r).toNat (inkC x), f.row, f.col⟩ := by unfold putF; rw [if_pos h, if_pos hk]
set_option maxRecDepth 100000 in
set_option maxHeartbeats 4000000 in
theorem put_frame (f : Fr) (v : Value) (row col : Int) (x : Cl) (w : World) (h : FrAt w v f) (hT : WTabs w) (hB : BTab w) :
    Calls Tryd.prog 17 #[v, .int .i64 row, .int .i64 col, .int .i32 x.r, .agg #[.int .i64 x.fg, .bool x.bo, .bool x.un, .bool x.iv]] w fun e w' => ∃ v', e = .returned v' ∧ FrOwn w' w.heap.size v' (putF f row col x) ∧ Below w.heap.size w w' := by
  obtain ⟨A, cap, rfl, hc, hcap, hcl⟩ := h
  obtain ⟨rows, cols, cs, fr, fc⟩ := f
  obtain ⟨n, hn⟩ : ∃ n, cs.length = n := ⟨_, rfl⟩
  have HFR := hide (show ∀ W, Below w.heap.size w W → FrAt W (frV ⟨rows, cols, cs, fr, fc⟩ A n cap) ⟨rows, cols, cs, fr, fc⟩ from fun W hW => ⟨A, cap, by dsimp only; rw [hn], hc, hcap, hcl.below hW⟩)
  have HN := hide hn
  have HT := hide hT
  have HBT := hide hB
  have hlt := World.block_lt_of_cell? _ _ hB.1
  dsimp only at hlt
  have HLT := hide hlt
  have HCL := hide hcl
  obtain ⟨r, wd, fg, bo, un, iv⟩ := x
  unfold frV at HFR ⊢
  dsimp only at hc HFR HCL ⊢
  rw [hn] at hc ⊢
  clear hT hB hcl hn hlt
  have HX := hide (bx_new w rows cols (.slice A n cap) fr fc fg bo un iv)
  have HB0 := hide (show Below w.heap.size w (((w.alloc (.cells (frCells rows cols (.slice A n cap) fr fc).toArray 28)).alloc (.cells (styCells fg bo un iv).toArray 35)).alloc (.cells (frCells 0 0 (.slice none 0 0) 0 0).toArray 28)) from (((Below.refl _ _).alloc (Nat.le_refl _) _).alloc (by simp) _).alloc (by simp; omega) _)
  by_cases hv : validF ⟨rows, cols, cs, fr, fc⟩ = true
  case neg =>
    have hv0 : validF ⟨rows, cols, cs, fr, fc⟩ = false := by simpa using hv
    have HV := hide hv0
    have HP := hide (putF_bad (row := row) (col := col) (x := ⟨r, wd, fg, bo, un, iv⟩) hv0)
    clear hv hv0
    go_enter Tryd.func17, Tryd.ntmps17
    go_wp2_with (first
      | (go_at_call 26; refine (valid_is _ _ HV.out _ _ (HFR.out _ HB0.out) (HT.out.below HB0.out)).mono ?_; rintro e w1 ⟨rfl, hb1⟩; have HX1 := hide (HX.out.below hb1); have HB1 := hide (HB0.out.trans (hb1.mono HB0.out.size)); obtain ⟨-, -, z0, z1, z2, z3, z4, zf⟩ := HX1.out.reads; clear hb1)
      | fail)
    refine bodyPost_ret (results_cell_row rfl _ _ (w.heap.size + 1 + 1) 28 (frCells 0 0 (.slice none 0 0) 0 0).toArray (0, 0) _ rfl (fr_put HX1.out.2.2 0 0 (.slice none 0 0) 0 0) Tryd.underlying28 rfl (by kernel_rfl)) rfl ⟨_, rfl, by rw [HP.out]; exact fr_nil _ _, fr_below HB1.out (by omega) _ _ _ _ _⟩
  case pos =>
    have HV := hide hv
    obtain ⟨R, C, hR, hC, h1, h2, h3, h4, hL, q1, q2, q3, q4, hvl⟩ := valid_facts hv
    dsimp only at hR hC hL q1 q2 q3 q4 hvl
    subst hR hC
    have hnRC : n = R * C := by rw [← HN.out]; exact hL
    obtain ⟨hs1, hs2⟩ := size_small h1 h2 h3 h4
    rw [← hnRC] at hs1 hs2
    have HVL := hide hvl
    have HNRC := hide hnRC
    clear hv hvl hL hnRC q1 q2 q3 q4
    obtain ⟨sc, hsc⟩ : ∃ y, styC ⟨r, wd, fg, bo, un, iv⟩ = y := ⟨_, rfl⟩
    obtain ⟨cn, hcn⟩ : ∃ y, cells r = y := ⟨_, rfl⟩
    have hcb := cells_bd r
    rw [hcn] at hcb
    obtain ⟨cb1, cb2⟩ := hcb
    have HS := hide hsc
    have HC := hide hcn
    have HOK := hide (show okP ⟨R, C, cs, fr, fc⟩ row col ⟨r, wd, fg, bo, un, iv⟩ = (decide (cn ≠ 0) && sc && decide (0 ≤ row ∧ row < R ∧ 0 ≤ col ∧ col + cn ≤ C)) by unfold okP; rw [hsc]; dsimp only; rw [hcn])
    clear hsc hcn
    by_cases hok : okP ⟨R, C, cs, fr, fc⟩ row col ⟨r, wd, fg, bo, un, iv⟩ = true
    case neg =>
      have HP := hide (putF_not HV.out (by simpa using hok))
      rw [HOK.out] at hok
      have h5 : cn = 0 ∨ (¬ cn = 0 ∧ sc = false) ∨ (¬ cn = 0 ∧ sc = true ∧ row < 0) ∨ (¬ cn = 0 ∧ sc = true ∧ ¬ row < 0 ∧ (R : Int) ≤ row) ∨ (¬ cn = 0 ∧ sc = true ∧ ¬ row < 0 ∧ ¬ (R : Int) ≤ row ∧ col < 0) ∨ (¬ cn = 0 ∧ sc = true ∧ ¬ row < 0 ∧ ¬ (R : Int) ≤ row ∧ ¬ col < 0 ∧ (C : Int) - cn < col) := by
        simp only [Bool.and_eq_true, decide_eq_true_eq, not_and] at hok
        cases sc
        · simp
          omega
        · simp
          by_cases a : cn = 0
          · exact .inl a
          · have := hok ⟨a, rfl⟩
            omega
      clear hok HOK
      rcases h5 with rfl | h5
      · go_enter Tryd.func17, Tryd.ntmps17
        go_wp2_with (first
          | (go_at_call 26; refine (valid_is _ _ HV.out _ _ (HFR.out _ HB0.out) (HT.out.below HB0.out)).mono ?_; rintro e w1 ⟨rfl, hb1⟩; have HX1 := hide (HX.out.below hb1); have HB1 := hide (HB0.out.trans (hb1.mono HB0.out.size)); obtain ⟨⟨k0, k1, k2, k3, k4, kf⟩, -, -⟩ := HX1.out.reads; have hz1 := HX1.out.2.2.lt; clear hb1)
          | (go_at_call 33; refine (clone_any _ _ _ (HFR.out _ HB1.out) (by dsimp only; rw [HN.out]; omega) (by dsimp only; rw [HN.out]; omega)).mono ?_; rintro e w2 ⟨v', rfl, hown, hb2⟩; obtain ⟨g, c2, rfl, hcm, how, hBg⟩ := hown.open HN.out (by omega); have HX2 := hide (HX1.out.below hb2); have HOW2 := hide how; have HB2 := hide (fr_below (HB1.out.trans (hb2.mono HB1.out.size)) (Nat.le_refl _) R C (.slice (some ⟨g, 0, none⟩) n c2) fr fc); clear k0 k1 k2 k3 k4 kf; obtain ⟨⟨k0, k1, k2, k3, k4, kf⟩, -, -⟩ := HX2.out.reads; clear hown how hb2)
          | (go_at_call 28; refine (wof_is _ _ HC.out _ (HT.out.below HB2.out)).mono ?_; rintro e w3 ⟨rfl, hb3⟩; have HX3 := hide ((HX2.out.put R C (.slice (some ⟨g, 0, none⟩) n c2) fr fc).below hb3); have HB3 := hide (HB2.out.trans (hb3.mono HB2.out.size)); have HOW3 := hide ((fr_low HOW2.out (show w.heap.size < w1.heap.size by omega) R C (.slice (some ⟨g, 0, none⟩) n c2) fr fc).below hb3); clear k0 k1 k2 k3 k4 kf hb3; obtain ⟨⟨k0, k1, k2, k3, k4, kf⟩, ⟨s0, s1, s2, s3⟩, z0, z1, z2, z3, z4, zf⟩ := HX3.out.reads)
          | fail)
        refine bodyPost_ret (results_cell_row rfl _ _ (w.heap.size + 1 + 1) 28 (frCells R C (.slice (some ⟨g, 0, none⟩) n c2) fr fc).toArray (0, 0) _ rfl (fr_put (HX3.out).2.2 R C (.slice (some ⟨g, 0, none⟩) n c2) fr fc) Tryd.underlying28 rfl (by kernel_rfl)) rfl ⟨_, rfl, ?_, fr_below (HB3.out) (by omega) _ _ _ _ _⟩
        rw [HP.out]
        exact (fr_own HN.out hcm (fr_low (HOW3.out) (show w.heap.size + 1 + 1 < w1.heap.size by omega) _ _ _ _ _)).mono HB1.out.size
      rcases h5 with ⟨c0, rfl⟩ | ⟨c0, rfl, d1⟩ | ⟨c0, rfl, d1, d2⟩ | ⟨c0, rfl, d1, d2, d3⟩ | ⟨c0, rfl, d1, d2, d3, d4⟩
      all_goals
        go_enter Tryd.func17, Tryd.ntmps17
        go_wp2_with (first
          | (go_at_call 26; refine (valid_is _ _ HV.out _ _ (HFR.out _ HB0.out) (HT.out.below HB0.out)).mono ?_; rintro e w1 ⟨rfl, hb1⟩; have HX1 := hide (HX.out.below hb1); have HB1 := hide (HB0.out.trans (hb1.mono HB0.out.size)); obtain ⟨⟨k0, k1, k2, k3, k4, kf⟩, -, -⟩ := HX1.out.reads; have hz1 := HX1.out.2.2.lt; clear hb1)
          | (go_at_call 33; refine (clone_any _ _ _ (HFR.out _ HB1.out) (by dsimp only; rw [HN.out]; omega) (by dsimp only; rw [HN.out]; omega)).mono ?_; rintro e w2 ⟨v', rfl, hown, hb2⟩; obtain ⟨g, c2, rfl, hcm, how, hBg⟩ := hown.open HN.out (by omega); have HX2 := hide (HX1.out.below hb2); have HOW2 := hide how; have HB2 := hide (fr_below (HB1.out.trans (hb2.mono HB1.out.size)) (Nat.le_refl _) R C (.slice (some ⟨g, 0, none⟩) n c2) fr fc); clear k0 k1 k2 k3 k4 kf; obtain ⟨⟨k0, k1, k2, k3, k4, kf⟩, -, -⟩ := HX2.out.reads; clear hown how hb2)
          | (go_at_call 28; refine (wof_is _ _ HC.out _ (HT.out.below HB2.out)).mono ?_; rintro e w3 ⟨rfl, hb3⟩; have HX3 := hide ((HX2.out.put R C (.slice (some ⟨g, 0, none⟩) n c2) fr fc).below hb3); have HB3 := hide (HB2.out.trans (hb3.mono HB2.out.size)); have HOW3 := hide ((fr_low HOW2.out (show w.heap.size < w1.heap.size by omega) R C (.slice (some ⟨g, 0, none⟩) n c2) fr fc).below hb3); clear k0 k1 k2 k3 k4 kf hb3; obtain ⟨⟨k0, k1, k2, k3, k4, kf⟩, ⟨s0, s1, s2, s3⟩, z0, z1, z2, z3, z4, zf⟩ := HX3.out.reads)
          | (go_at_call 34; refine (style_is ⟨r, wd, fg, bo, un, iv⟩ _ HS.out _).mono ?_; rintro e w4 ⟨rfl, hb4⟩; have HX4 := hide (HX3.out.below hb4); have HB4 := hide (HB3.out.trans (hb4.mono HB3.out.size)); have HOW4 := hide (HOW3.out.below hb4); clear k0 k1 k2 k3 k4 kf s0 s1 s2 s3 z0 z1 z2 z3 z4 zf hb4; obtain ⟨⟨k0, k1, k2, k3, k4, kf⟩, ⟨s0, s1, s2, s3⟩, z0, z1, z2, z3, z4, zf⟩ := HX4.out.reads)
          | fail)
        refine bodyPost_ret (results_cell_row rfl _ _ (w.heap.size + 1 + 1) 28 (frCells R C (.slice (some ⟨g, 0, none⟩) n c2) fr fc).toArray (0, 0) _ rfl (fr_put (HX4.out).2.2 R C (.slice (some ⟨g, 0, none⟩) n c2) fr fc) Tryd.underlying28 rfl (by kernel_rfl)) rfl ⟨_, rfl, ?_, fr_below (HB4.out) (by omega) _ _ _ _ _⟩
        rw [HP.out]
        exact (fr_own HN.out hcm (fr_low (HOW4.out) (show w.heap.size + 1 + 1 < w1.heap.size by omega) _ _ _ _ _)).mono HB1.out.size
    case pos =>
      have HP := hide (putF_ok HV.out hok)
      rw [HOK.out] at hok
      simp only [Bool.and_eq_true, decide_eq_true_eq] at hok
      obtain ⟨⟨e1, rfl⟩, e2, e3, e4, e5⟩ := hok
      clear HOK
      obtain ⟨k, rfl⟩ : ∃ k : Nat, row = k := ⟨row.toNat, by omega⟩
      obtain ⟨i, rfl⟩ : ∃ i : Nat, col = i := ⟨col.toNat, by omega⟩
      obtain ⟨m, rfl⟩ : ∃ m : Nat, cn = m := ⟨cn.toNat, by omega⟩
      have d1 : ¬ (k : Int) < 0 := by omega
      have d2 : ¬ (R : Int) ≤ (k : Int) := by omega
      have d3 : ¬ (i : Int) < 0 := by omega
      have d4 : ¬ (C : Int) - (m : Int) < (i : Int) := by omega
      have hsp := spot_in (R := R) (C := C) (k := k) (j := i + m - 1) (by omega) (by omega)
      obtain ⟨s, hs⟩ : ∃ s, k * C + i = s := ⟨_, rfl⟩
      rw [← HNRC.out] at hsp
      have hsn : s < n := by omega
      have hsm : s + m ≤ n := by omega
      have hsz : ((k : Int) * (C : Int) + (i : Int)) = (s : Int) := by rw [← hs]; push_cast; rfl
      have hwr : IntKind.i64.wrap ((k : Int) * (C : Int)) = (s : Int) - (i : Int) := by
        rw [show (k : Int) * (C : Int) = (s : Int) - (i : Int) by omega]
        simp [IntKind.wrap_i64]; omega
      have hrow := row_whole R cs C (by rw [HN.out]; exact HNRC.out) HVL.out
      have hX0 := List.getElem?_eq_getElem (show s < cs.length by rw [HN.out]; exact hsn)
      obtain ⟨X0, eX0⟩ : ∃ y, cs[s]'(by rw [HN.out]; exact hsn) = y := ⟨_, rfl⟩
      rw [eX0] at hX0
      obtain ⟨-, f2, f0⟩ := row_facts hrow s X0 hX0
      have HX2a := hide (show X0.w = 2 → s + 1 < n from fun h => by obtain ⟨d, hd, -⟩ := f2 h; rw [← HN.out]; exact (List.getElem?_eq_some_iff.1 hd).1)
      have HX0a := hide (show X0.w = 0 → 1 ≤ s from fun h => (f0 h).1)
      have HX0 := hide hX0
      have HROW := hide hrow
      obtain ⟨L1, hL1⟩ : ∃ y, wipeL cs s = y := ⟨_, rfl⟩
      have HL1 := hide hL1
      have HLN := hide (show L1.length = n by rw [← hL1, wipe_len]; exact HN.out)
      rw [HC.out] at HP
      dsimp only at HP
      rw [hsz, Int.toNat_natCast, Int.toNat_natCast] at HP
      unfold inkC at HP
      dsimp only at HP
      rw [HC.out] at HP
      clear hrow hX0 eX0 f2 f0 hL1 hsz hs hsp
      have h12 : m = 1 ∨ m = 2 := by omega
      rcases h12 with rfl | rfl
      · rw [putL_1, HL1.out] at HP
        go_enter Tryd.func17, Tryd.ntmps17
        go_wp2_with (first
          | (go_at_call 26; refine (valid_is _ _ HV.out _ _ (HFR.out _ HB0.out) (HT.out.below HB0.out)).mono ?_; rintro e w1 ⟨rfl, hb1⟩; have HX1 := hide (HX.out.below hb1); have HB1 := hide (HB0.out.trans (hb1.mono HB0.out.size)); obtain ⟨⟨k0, k1, k2, k3, k4, kf⟩, -, -⟩ := HX1.out.reads; have hz1 := HX1.out.2.2.lt; clear hb1)
          | (go_at_call 33; refine (clone_any _ _ _ (HFR.out _ HB1.out) (by dsimp only; rw [HN.out]; omega) (by dsimp only; rw [HN.out]; omega)).mono ?_; rintro e w2 ⟨v', rfl, hown, hb2⟩; obtain ⟨g, c2, rfl, hcm, how, hBg⟩ := hown.open HN.out (by omega); have HX2 := hide (HX1.out.below hb2); have HOW2 := hide how; have HB2 := hide (fr_below (HB1.out.trans (hb2.mono HB1.out.size)) (Nat.le_refl _) R C (.slice (some ⟨g, 0, none⟩) n c2) fr fc); clear k0 k1 k2 k3 k4 kf; obtain ⟨⟨k0, k1, k2, k3, k4, kf⟩, -, -⟩ := HX2.out.reads; clear hown how hb2)
          | (go_at_call 28; refine (wof_is _ _ HC.out _ (HT.out.below HB2.out)).mono ?_; rintro e w3 ⟨rfl, hb3⟩; have HX3 := hide ((HX2.out.put R C (.slice (some ⟨g, 0, none⟩) n c2) fr fc).below hb3); have HB3 := hide (HB2.out.trans (hb3.mono HB2.out.size)); have HOW3 := hide ((fr_low HOW2.out (show w.heap.size < w1.heap.size by omega) R C (.slice (some ⟨g, 0, none⟩) n c2) fr fc).below hb3); clear k0 k1 k2 k3 k4 kf hb3; obtain ⟨⟨k0, k1, k2, k3, k4, kf⟩, ⟨s0, s1, s2, s3⟩, z0, z1, z2, z3, z4, zf⟩ := HX3.out.reads)
          | (go_at_call 34; refine (style_is ⟨r, wd, fg, bo, un, iv⟩ _ HS.out _).mono ?_; rintro e w4 ⟨rfl, hb4⟩; have HX4 := hide (HX3.out.below hb4); have HB4 := hide (HB3.out.trans (hb4.mono HB3.out.size)); have HOW4 := hide (HOW3.out.below hb4); clear k0 k1 k2 k3 k4 kf s0 s1 s2 s3 z0 z1 z2 z3 z4 zf hb4; obtain ⟨⟨k0, k1, k2, k3, k4, kf⟩, ⟨s0, s1, s2, s3⟩, z0, z1, z2, z3, z4, zf⟩ := HX4.out.reads)
          | (go_at_call 35; refine (wipe_is g n c2 w1.heap.size s _ rfl cs L1 HL1.out X0 _ HOW4.out HN.out (by omega) (HBT.out.below HB4.out) (by have := HB1.out.size; omega) HX0.out HX2a.out HX0a.out).mono ?_; rintro e w5 ⟨rfl, how5, hg5⟩; have HX5 := hide (HX4.out.grown hg5 (by omega)); have HB5 := hide (HB4.out.grown hg5 HB4.out.size (fun k e => by cases e; have := HB1.out.size; omega)); have HOW5 := hide how5; have HBT5 := hide ((HBT.out.below HB4.out).keep hg5 (by have := HB1.out.size; omega)); clear k0 k1 k2 k3 k4 kf s0 s1 s2 s3 z0 z1 z2 z3 z4 zf hg5 how5; obtain ⟨⟨k0, k1, k2, k3, k4, kf⟩, ⟨s0, s1, s2, s3⟩, z0, z1, z2, z3, z4, zf⟩ := HX5.out.reads; obtain ⟨X1, hX1⟩ : ∃ y, L1[s]? = some y := ⟨_, List.getElem?_eq_getElem (by rw [HLN.out]; exact hsn)⟩; obtain ⟨x0, x1, x2, x3, x4, x5⟩ := HOW5.out.cls.get hX1; rw [Nat.zero_add] at x0 x1 x2 x3 x4 x5; have xf := fun i => HOW5.out.frozen i; clear hX1)
          | fail)
        have HX6 := hide (HX5.out.grown (grown6 w5 g (s * 6) (s * 6 + 1) (s * 6 + 2) (s * 6 + 3) (s * 6 + 4) (s * 6 + 5) (.int .i32 r) (.int .i64 1) (.int .i64 fg) (.bool bo) (.bool un) (.bool iv)) (by omega))
        have HB6 := hide (HB5.out.grown (grown6 w5 g (s * 6) (s * 6 + 1) (s * 6 + 2) (s * 6 + 3) (s * 6 + 4) (s * 6 + 5) (.int .i32 r) (.int .i64 1) (.int .i64 fg) (.bool bo) (.bool un) (.bool iv)) HB5.out.size (fun k e => by cases e; have := HB1.out.size; omega))
        have HOW6 := hide (own_set6 HOW5.out HLN.out hsn ⟨r, 1, fg, bo, un, iv⟩)
        refine bodyPost_ret (results_cell_row rfl _ _ (w.heap.size + 1 + 1) 28 (frCells R C (.slice (some ⟨g, 0, none⟩) n c2) fr fc).toArray (0, 0) _ rfl (fr_put (HX6.out).2.2 R C (.slice (some ⟨g, 0, none⟩) n c2) fr fc) Tryd.underlying28 rfl (by kernel_rfl)) rfl ⟨_, rfl, ?_, fr_below (HB6.out) (by omega) _ _ _ _ _⟩
        rw [HP.out]
        exact (fr_own (by rw [List.length_set]; exact HLN.out) hcm (fr_low (HOW6.out) (show w.heap.size + 1 + 1 < w1.heap.size by omega) _ _ _ _ _)).mono HB1.out.size
      · obtain ⟨Y0, hY0, hY2⟩ := wipe_next (l := cs) HROW.out (i := s) (by rw [HN.out]; exact hsm)
        rw [HN.out] at hY2
        rw [HL1.out] at hY0
        have HY0 := hide hY0
        have HY2a := hide hY2
        obtain ⟨L2, hL2⟩ : ∃ y, wipeL L1 (s + 1) = y := ⟨_, rfl⟩
        have HL2 := hide hL2
        have HLN2 := hide (show L2.length = n by rw [← hL2, wipe_len]; exact HLN.out)
        rw [putL_2, HL1.out, HL2.out] at HP
        clear hY0 hY2 hL2
        go_enter Tryd.func17, Tryd.ntmps17
        go_wp2_with (first
          | (go_at_call 26; refine (valid_is _ _ HV.out _ _ (HFR.out _ HB0.out) (HT.out.below HB0.out)).mono ?_; rintro e w1 ⟨rfl, hb1⟩; have HX1 := hide (HX.out.below hb1); have HB1 := hide (HB0.out.trans (hb1.mono HB0.out.size)); obtain ⟨⟨k0, k1, k2, k3, k4, kf⟩, -, -⟩ := HX1.out.reads; have hz1 := HX1.out.2.2.lt; clear hb1)
          | (go_at_call 33; refine (clone_any _ _ _ (HFR.out _ HB1.out) (by dsimp only; rw [HN.out]; omega) (by dsimp only; rw [HN.out]; omega)).mono ?_; rintro e w2 ⟨v', rfl, hown, hb2⟩; obtain ⟨g, c2, rfl, hcm, how, hBg⟩ := hown.open HN.out (by omega); have HX2 := hide (HX1.out.below hb2); have HOW2 := hide how; have HB2 := hide (fr_below (HB1.out.trans (hb2.mono HB1.out.size)) (Nat.le_refl _) R C (.slice (some ⟨g, 0, none⟩) n c2) fr fc); clear k0 k1 k2 k3 k4 kf; obtain ⟨⟨k0, k1, k2, k3, k4, kf⟩, -, -⟩ := HX2.out.reads; clear hown how hb2)
          | (go_at_call 28; refine (wof_is _ _ HC.out _ (HT.out.below HB2.out)).mono ?_; rintro e w3 ⟨rfl, hb3⟩; have HX3 := hide ((HX2.out.put R C (.slice (some ⟨g, 0, none⟩) n c2) fr fc).below hb3); have HB3 := hide (HB2.out.trans (hb3.mono HB2.out.size)); have HOW3 := hide ((fr_low HOW2.out (show w.heap.size < w1.heap.size by omega) R C (.slice (some ⟨g, 0, none⟩) n c2) fr fc).below hb3); clear k0 k1 k2 k3 k4 kf hb3; obtain ⟨⟨k0, k1, k2, k3, k4, kf⟩, ⟨s0, s1, s2, s3⟩, z0, z1, z2, z3, z4, zf⟩ := HX3.out.reads)
          | (go_at_call 34; refine (style_is ⟨r, wd, fg, bo, un, iv⟩ _ HS.out _).mono ?_; rintro e w4 ⟨rfl, hb4⟩; have HX4 := hide (HX3.out.below hb4); have HB4 := hide (HB3.out.trans (hb4.mono HB3.out.size)); have HOW4 := hide (HOW3.out.below hb4); clear k0 k1 k2 k3 k4 kf s0 s1 s2 s3 z0 z1 z2 z3 z4 zf hb4; obtain ⟨⟨k0, k1, k2, k3, k4, kf⟩, ⟨s0, s1, s2, s3⟩, z0, z1, z2, z3, z4, zf⟩ := HX4.out.reads)
          | (go_at_call 35; refine (wipe_is g n c2 w1.heap.size (s + 1) _ (by omega) L1 L2 HL2.out Y0 _ HOW5.out HLN.out (by omega) HBT5.out (by have := HB1.out.size; omega) HY0.out HY2a.out (by omega)).mono ?_; rintro e w6 ⟨rfl, how6, hg6⟩; have HX6 := hide (HX5.out.grown hg6 (by omega)); have HB6 := hide (HB5.out.grown hg6 HB5.out.size (fun k e => by cases e; have := HB1.out.size; omega)); have HOW6 := hide how6; clear k0 k1 k2 k3 k4 kf s0 s1 s2 s3 z0 z1 z2 z3 z4 zf hg6 how6; obtain ⟨⟨k0, k1, k2, k3, k4, kf⟩, ⟨s0, s1, s2, s3⟩, z0, z1, z2, z3, z4, zf⟩ := HX6.out.reads; obtain ⟨X1, hX1⟩ : ∃ y, L2[s]? = some y := ⟨_, List.getElem?_eq_getElem (by rw [HLN2.out]; exact hsn)⟩; obtain ⟨x0, x1, x2, x3, x4, x5⟩ := HOW6.out.cls.get hX1; obtain ⟨X2, hX2⟩ : ∃ y, L2[s + 1]? = some y := ⟨_, List.getElem?_eq_getElem (by rw [HLN2.out]; omega)⟩; obtain ⟨y0, y1, y2, y3, y4, y5⟩ := HOW6.out.cls.get hX2; simp only [Nat.zero_add] at x0 x1 x2 x3 x4 x5 y0 y1 y2 y3 y4 y5; have xf := fun i => HOW6.out.frozen i; clear hX1 hX2)
          | (go_at_call 35; refine (wipe_is g n c2 w1.heap.size s _ (by omega) cs L1 HL1.out X0 _ HOW4.out HN.out (by omega) (HBT.out.below HB4.out) (by have := HB1.out.size; omega) HX0.out HX2a.out HX0a.out).mono ?_; rintro e w5 ⟨rfl, how5, hg5⟩; have HX5 := hide (HX4.out.grown hg5 (by omega)); have HB5 := hide (HB4.out.grown hg5 HB4.out.size (fun k e => by cases e; have := HB1.out.size; omega)); have HOW5 := hide how5; have HBT5 := hide ((HBT.out.below HB4.out).keep hg5 (by have := HB1.out.size; omega)); clear k0 k1 k2 k3 k4 kf s0 s1 s2 s3 z0 z1 z2 z3 z4 zf hg5 how5; obtain ⟨⟨k0, k1, k2, k3, k4, kf⟩, ⟨s0, s1, s2, s3⟩, z0, z1, z2, z3, z4, zf⟩ := HX5.out.reads; skip)
          | fail)
        have HX7 := hide (HX6.out.grown (grown6 w6 g ((s + 1) * 6) ((s + 1) * 6 + 1) ((s + 1) * 6 + 2) ((s + 1) * 6 + 3) ((s + 1) * 6 + 4) ((s + 1) * 6 + 5) (.int .i32 0) (.int .i64 0) (.int .i64 fg) (.bool bo) (.bool un) (.bool iv)) (by omega))
        have HB7 := hide (HB6.out.grown (grown6 w6 g ((s + 1) * 6) ((s + 1) * 6 + 1) ((s + 1) * 6 + 2) ((s + 1) * 6 + 3) ((s + 1) * 6 + 4) ((s + 1) * 6 + 5) (.int .i32 0) (.int .i64 0) (.int .i64 fg) (.bool bo) (.bool un) (.bool iv)) HB6.out.size (fun k e => by cases e; have := HB1.out.size; omega))
        have HOW7 := hide (own_set6 HOW6.out HLN2.out (show s + 1 < n by omega) ⟨0, 0, fg, bo, un, iv⟩)
        have HX8 := hide (HX7.out.grown (grown6 _ g (s * 6) (s * 6 + 1) (s * 6 + 2) (s * 6 + 3) (s * 6 + 4) (s * 6 + 5) (.int .i32 r) (.int .i64 2) (.int .i64 fg) (.bool bo) (.bool un) (.bool iv)) (by omega))
        have HB8 := hide (HB7.out.grown (grown6 _ g (s * 6) (s * 6 + 1) (s * 6 + 2) (s * 6 + 3) (s * 6 + 4) (s * 6 + 5) (.int .i32 r) (.int .i64 2) (.int .i64 fg) (.bool bo) (.bool un) (.bool iv)) HB7.out.size (fun k e => by cases e; have := HB1.out.size; omega))
        have HOW8 := hide (own_set6 HOW7.out (by rw [List.length_set]; exact HLN2.out) hsn ⟨r, 2, fg, bo, un, iv⟩)
        refine bodyPost_ret (results_cell_row rfl _ _ (w.heap.size + 1 + 1) 28 (frCells R C (.slice (some ⟨g, 0, none⟩) n c2) fr fc).toArray (0, 0) _ rfl (fr_put (HX8.out).2.2 R C (.slice (some ⟨g, 0, none⟩) n c2) fr fc) Tryd.underlying28 rfl (by kernel_rfl)) rfl ⟨_, rfl, ?_, fr_below (HB8.out) (by omega) _ _ _ _ _⟩
        rw [HP.out]
        exact (fr_own (by rw [List.length_set, List.length_set]; exact HLN2.out) hcm (fr_low (HOW8.out) (show w.heap.size + 1 + 1 < w1.heap.size by omega) _ _ _ _ _)).mono HB1.out.size
end Go.Proofs.YtojjdckpbmjjdaaDoor
