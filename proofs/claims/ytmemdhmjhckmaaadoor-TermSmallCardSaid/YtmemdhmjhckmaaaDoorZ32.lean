/- Contract of limnerref06.Put. The document's terminal: a rune is shown. -/
import Derived.Test.YtmemdhmjhckmaaaDoorZ31
import Derived.Test.YtmemdhmjhckmaaaDoorZ17
namespace Go.Proofs.YtmemdhmjhckmaaaDoor
open Go.RowKit

set_option maxRecDepth 100000 in
set_option maxHeartbeats 4000000 in
theorem rput_frame (f : Fr) (v : Value) (row col : Int) (x : Cl) (w : World) (h : FrAt w v f) :
    Calls Tryd.prog 63 #[v, .int .i64 row, .int .i64 col, .int .i32 x.r, .agg #[.int .i64 x.fg, .bool x.bo, .bool x.un, .bool x.iv]] w fun e w' => ∃ v', e = .returned v' ∧ FrOwn w' w.heap.size v' (putF f row col x) ∧ Below w.heap.size w w' := by
  obtain ⟨A, cap, rfl, hc, hcap, hcl⟩ := h
  obtain ⟨rows, cols, cs, fr, fc⟩ := f
  obtain ⟨n, hn⟩ : ∃ n, cs.length = n := ⟨_, rfl⟩
  have HFR := hide (show ∀ W, Below w.heap.size w W → FrAt W (frV ⟨rows, cols, cs, fr, fc⟩ A n cap) ⟨rows, cols, cs, fr, fc⟩ from fun W hW => ⟨A, cap, by dsimp only; rw [hn], hc, hcap, hcl.below hW⟩)
  have HN := hide hn
  have HCL := hide hcl
  obtain ⟨r, wd, fg, bo, un, iv'⟩ := x
  unfold frV at HFR ⊢
  dsimp only at hc HFR HCL ⊢
  rw [hn] at hc ⊢
  clear hcl hn
  have HX := hide (bx_new w rows cols (.slice A n cap) fr fc fg bo un iv')
  have HB0 := hide (show Below w.heap.size w (((w.alloc (.cells (frCells rows cols (.slice A n cap) fr fc).toArray 35)).alloc (.cells (styCells fg bo un iv').toArray 38)).alloc (.cells (frCells 0 0 (.slice none 0 0) 0 0).toArray 35)) from (((Below.refl _ _).alloc (Nat.le_refl _) _).alloc (by simp) _).alloc (by simp; omega) _)
  by_cases hv : validF ⟨rows, cols, cs, fr, fc⟩ = true
  case neg =>
    have hv0 : validF ⟨rows, cols, cs, fr, fc⟩ = false := by simpa using hv
    have HV := hide hv0
    have HP := hide (putF_bad (row := row) (col := col) (x := ⟨r, wd, fg, bo, un, iv'⟩) hv0)
    clear hv hv0
    go_enter Tryd.func63, Tryd.ntmps63
    go_wp2_with (first
      | (go_at_call 86; refine (rvalid_is _ _ HV.out _ _ (HFR.out _ HB0.out)).mono ?_; rintro e w1 ⟨rfl, hb1⟩; have HX1 := hide (HX.out.below hb1); have HB1 := hide (HB0.out.trans (hb1.mono HB0.out.size)); obtain ⟨⟨k0, k1, k2, k3, k4, kf⟩, -, z0, z1, z2, z3, z4, zf⟩ := HX1.out.reads; have hz1 := HX1.out.2.2.lt; clear hb1)
      | fail)
    refine bodyPost_ret (results_cell_row rfl _ _ (w.heap.size + 1 + 1) 35 (frCells 0 0 (.slice none 0 0) 0 0).toArray (0, 0) _ rfl (fr_put HX1.out.2.2 0 0 (.slice none 0 0) 0 0) Tryd.underlying35 rfl (by kernel_rfl)) rfl ⟨_, rfl, by rw [HP.out]; exact fr_nil _ _, fr_below HB1.out (by omega) _ _ _ _ _⟩
  case pos =>
    have HV := hide hv
    obtain ⟨R, C, hR, hC, h1, h2, h3, h4, hL, q1, q2, q3, q4, hvl⟩ := valid_facts hv
    dsimp only at hR hC hL q1 q2 q3 q4 hvl
    subst hR hC
    have hnRC : n = R * C := by rw [← HN.out]; exact hL
    obtain ⟨hs1, hs2⟩ := size_small h1 h2 h3 h4
    rw [← hnRC] at hs1 hs2
    have HVL := hide hvl
    have HNRC := hide hnRC
    clear hv hvl hL hnRC q1 q2 q3 q4
    obtain ⟨sc, hsc⟩ : ∃ y, styC ⟨r, wd, fg, bo, un, iv'⟩ = y := ⟨_, rfl⟩
    obtain ⟨cn, hcn⟩ : ∃ y, cells r = y := ⟨_, rfl⟩
    have hcb := cells_bd r
    rw [hcn] at hcb
    obtain ⟨cb1, cb2⟩ := hcb
    have HS := hide hsc
    have HC := hide hcn
    have HOK := hide (show okP ⟨R, C, cs, fr, fc⟩ row col ⟨r, wd, fg, bo, un, iv'⟩ = (decide (cn ≠ 0) && sc && decide (0 ≤ row ∧ row < R ∧ 0 ≤ col ∧ col + cn ≤ C)) by unfold okP; rw [hsc]; dsimp only; rw [hcn])
    clear hsc hcn
    by_cases hok : okP ⟨R, C, cs, fr, fc⟩ row col ⟨r, wd, fg, bo, un, iv'⟩ = true
    case neg =>
      have HP := hide (putF_not HV.out (by simpa using hok))
      rw [HOK.out] at hok
      have h5 : cn = 0 ∨ (¬ cn = 0 ∧ sc = false) ∨ (¬ cn = 0 ∧ sc = true ∧ row < 0) ∨ (¬ cn = 0 ∧ sc = true ∧ ¬ row < 0 ∧ (R : Int) ≤ row) ∨ (¬ cn = 0 ∧ sc = true ∧ ¬ row < 0 ∧ ¬ (R : Int) ≤ row ∧ col < 0) ∨ (¬ cn = 0 ∧ sc = true ∧ ¬ row < 0 ∧ ¬ (R : Int) ≤ row ∧ ¬ col < 0 ∧ (C : Int) ≤ col) ∨ (¬ cn = 0 ∧ sc = true ∧ ¬ row < 0 ∧ ¬ (R : Int) ≤ row ∧ ¬ col < 0 ∧ ¬ (C : Int) ≤ col ∧ (C : Int) < col + cn) := by
        simp only [Bool.and_eq_true, decide_eq_true_eq, not_and] at hok
        cases sc
        · simp
          omega
        · simp
          by_cases a : cn = 0
          · exact .inl a
          · have := hok ⟨a, rfl⟩
            omega
      clear hok HOK
      rcases h5 with rfl | h5
      · go_enter Tryd.func63, Tryd.ntmps63
        go_wp2_with (first
          | (go_at_call 86; refine (rvalid_is _ _ HV.out _ _ (HFR.out _ HB0.out)).mono ?_; rintro e w1 ⟨rfl, hb1⟩; have HX1 := hide (HX.out.below hb1); have HB1 := hide (HB0.out.trans (hb1.mono HB0.out.size)); obtain ⟨⟨k0, k1, k2, k3, k4, kf⟩, -, z0, z1, z2, z3, z4, zf⟩ := HX1.out.reads; have hz1 := HX1.out.2.2.lt; clear hb1)
          | (go_at_call 87; refine (rcopy_any _ _ _ (HFR.out _ HB1.out) (by dsimp only; rw [HN.out]; omega) (by dsimp only; rw [HN.out]; omega)).mono ?_; rintro e w2 ⟨v', rfl, hown, hb2⟩; obtain ⟨g, c2, rfl, hcm, how, hBg⟩ := hown.open HN.out (by omega); have HX2 := hide (HX1.out.below hb2); have HOW2 := hide how; obtain ⟨A9, c9, e9, hcc⟩ := how.form; rw [HN.out] at e9 hcc; injection e9 with e9 e9' e9''; subst e9''; have HB2 := hide (fr_below (HB1.out.trans (hb2.mono HB1.out.size)) (Nat.le_refl _) R C (.slice (some ⟨g, 0, none⟩) n c2) fr fc); clear k0 k1 k2 k3 k4 kf z0 z1 z2 z3 z4 zf e9 e9'; obtain ⟨⟨k0, k1, k2, k3, k4, kf⟩, -, -⟩ := HX2.out.reads; clear hown how hb2)
          | (go_at_call 62; refine (rof_is _ _ HC.out _).mono ?_; rintro e w3 ⟨rfl, hb3⟩; have HX3 := hide ((HX2.out.put R C (.slice (some ⟨g, 0, none⟩) n c2) fr fc).below hb3); have HB3 := hide (HB2.out.trans (hb3.mono HB2.out.size)); have HOW3 := hide ((fr_low HOW2.out (show w.heap.size < w1.heap.size by omega) R C (.slice (some ⟨g, 0, none⟩) n c2) fr fc).below hb3); clear k0 k1 k2 k3 k4 kf hb3; obtain ⟨⟨k0, k1, k2, k3, k4, kf⟩, ⟨s0, s1, s2, s3⟩, z0, z1, z2, z3, z4, zf⟩ := HX3.out.reads)
          | fail)
        refine bodyPost_ret (results_cell_row rfl _ _ (w.heap.size + 1 + 1) 35 (frCells R C (.slice (some ⟨g, 0, none⟩) n c2) fr fc).toArray (0, 0) _ rfl (fr_put (HX3.out).2.2 R C (.slice (some ⟨g, 0, none⟩) n c2) fr fc) Tryd.underlying35 rfl (by kernel_rfl)) rfl ⟨_, rfl, ?_, fr_below (HB3.out) (by omega) _ _ _ _ _⟩
        rw [HP.out]
        exact (fr_own HN.out hcm (fr_low (HOW3.out) (show w.heap.size + 1 + 1 < w1.heap.size by omega) _ _ _ _ _)).mono HB1.out.size
      rcases h5 with ⟨c0, rfl⟩ | ⟨c0, rfl, d1⟩ | ⟨c0, rfl, d1, d2⟩ | ⟨c0, rfl, d1, d2, d3⟩ | ⟨c0, rfl, d1, d2, d3, d4⟩ | ⟨c0, rfl, d1, d2, d3, d4, d5⟩
      all_goals
        go_enter Tryd.func63, Tryd.ntmps63
        go_wp2_with (first
          | (go_at_call 86; refine (rvalid_is _ _ HV.out _ _ (HFR.out _ HB0.out)).mono ?_; rintro e w1 ⟨rfl, hb1⟩; have HX1 := hide (HX.out.below hb1); have HB1 := hide (HB0.out.trans (hb1.mono HB0.out.size)); obtain ⟨⟨k0, k1, k2, k3, k4, kf⟩, -, z0, z1, z2, z3, z4, zf⟩ := HX1.out.reads; have hz1 := HX1.out.2.2.lt; clear hb1)
          | (go_at_call 87; refine (rcopy_any _ _ _ (HFR.out _ HB1.out) (by dsimp only; rw [HN.out]; omega) (by dsimp only; rw [HN.out]; omega)).mono ?_; rintro e w2 ⟨v', rfl, hown, hb2⟩; obtain ⟨g, c2, rfl, hcm, how, hBg⟩ := hown.open HN.out (by omega); have HX2 := hide (HX1.out.below hb2); have HOW2 := hide how; obtain ⟨A9, c9, e9, hcc⟩ := how.form; rw [HN.out] at e9 hcc; injection e9 with e9 e9' e9''; subst e9''; have HB2 := hide (fr_below (HB1.out.trans (hb2.mono HB1.out.size)) (Nat.le_refl _) R C (.slice (some ⟨g, 0, none⟩) n c2) fr fc); clear k0 k1 k2 k3 k4 kf z0 z1 z2 z3 z4 zf e9 e9'; obtain ⟨⟨k0, k1, k2, k3, k4, kf⟩, -, -⟩ := HX2.out.reads; clear hown how hb2)
          | (go_at_call 62; refine (rof_is _ _ HC.out _).mono ?_; rintro e w3 ⟨rfl, hb3⟩; have HX3 := hide ((HX2.out.put R C (.slice (some ⟨g, 0, none⟩) n c2) fr fc).below hb3); have HB3 := hide (HB2.out.trans (hb3.mono HB2.out.size)); have HOW3 := hide ((fr_low HOW2.out (show w.heap.size < w1.heap.size by omega) R C (.slice (some ⟨g, 0, none⟩) n c2) fr fc).below hb3); clear k0 k1 k2 k3 k4 kf hb3; obtain ⟨⟨k0, k1, k2, k3, k4, kf⟩, ⟨s0, s1, s2, s3⟩, z0, z1, z2, z3, z4, zf⟩ := HX3.out.reads)
          | (go_at_call 88; refine (rstyle_is ⟨r, wd, fg, bo, un, iv'⟩ _ HS.out _).mono ?_; rintro e w4 ⟨rfl, hb4⟩; have HX4 := hide (HX3.out.below hb4); have HB4 := hide (HB3.out.trans (hb4.mono HB3.out.size)); have HOW4 := hide (HOW3.out.below hb4); clear k0 k1 k2 k3 k4 kf s0 s1 s2 s3 z0 z1 z2 z3 z4 zf hb4; obtain ⟨⟨k0, k1, k2, k3, k4, kf⟩, ⟨s0, s1, s2, s3⟩, z0, z1, z2, z3, z4, zf⟩ := HX4.out.reads)
          | fail)
        refine bodyPost_ret (results_cell_row rfl _ _ (w.heap.size + 1 + 1) 35 (frCells R C (.slice (some ⟨g, 0, none⟩) n c2) fr fc).toArray (0, 0) _ rfl (fr_put (HX4.out).2.2 R C (.slice (some ⟨g, 0, none⟩) n c2) fr fc) Tryd.underlying35 rfl (by kernel_rfl)) rfl ⟨_, rfl, ?_, fr_below (HB4.out) (by omega) _ _ _ _ _⟩
        rw [HP.out]
        exact (fr_own HN.out hcm (fr_low (HOW4.out) (show w.heap.size + 1 + 1 < w1.heap.size by omega) _ _ _ _ _)).mono HB1.out.size
    case pos =>
      have HP := hide (putF_ok HV.out hok)
      rw [HOK.out] at hok
      simp only [Bool.and_eq_true, decide_eq_true_eq] at hok
      obtain ⟨⟨e1, rfl⟩, e2, e3, e4, e5⟩ := hok
      clear HOK
      obtain ⟨k, rfl⟩ : ∃ k : Nat, row = k := ⟨row.toNat, by omega⟩
      obtain ⟨i, rfl⟩ : ∃ i : Nat, col = i := ⟨col.toNat, by omega⟩
      obtain ⟨m, rfl⟩ : ∃ m : Nat, cn = m := ⟨cn.toNat, by omega⟩
      have d1 : ¬ (k : Int) < 0 := by omega
      have d2 : ¬ (R : Int) ≤ (k : Int) := by omega
      have d3 : ¬ (i : Int) < 0 := by omega
      have d4 : ¬ (C : Int) ≤ (i : Int) := by omega
      have d5 : ¬ (C : Int) < (i : Int) + (m : Int) := by omega
      have d6 : ((m : Int) == 0) = false := by simp; omega
      have d7 : ¬ R ≤ k := by omega
      have d8 : ¬ C ≤ i := by omega
      have hsp := spot_in (R := R) (C := C) (k := k) (j := C - 1) (by omega) (by omega)
      have HD1 := hide (fun h c => put_doc1 (k := k) (i := i) (show cs.length = R * C by rw [HN.out]; exact HNRC.out) HVL.out (by omega) h c)
      have HD2 := hide (fun h c => put_doc2 (k := k) (i := i) (show cs.length = R * C by rw [HN.out]; exact HNRC.out) HVL.out (by omega) h c)
      obtain ⟨q, hq⟩ : ∃ q, k * C = q := ⟨_, rfl⟩
      rw [← HNRC.out] at hsp
      have hqn : q + C ≤ n := by omega
      have hsz : ((k : Int) * (C : Int) + (i : Int)) = ((q + i : Nat) : Int) := by rw [← hq]; push_cast; rfl
      have hqz : (k : Int) * (C : Int) = (q : Int) := by rw [← hq]; push_cast; rfl
      have hqz2 : ((k : Int) + 1) * (C : Int) = (q : Int) + (C : Int) := by rw [Int.add_mul, Int.one_mul, hqz]
      have hwr : IntKind.i64.wrap ((k : Int) * (C : Int)) = (q : Int) := by
        rw [hqz]; simp [IntKind.wrap_i64]; omega
      have hwr2 : IntKind.i64.wrap (((k : Int) + 1) * (C : Int)) = (q : Int) + (C : Int) := by
        rw [hqz2]; simp [IntKind.wrap_i64]; omega
      rw [hq] at HD1 HD2
      rw [HC.out] at HP
      dsimp only at HP
      rw [hsz, Int.toNat_natCast, Int.toNat_natCast] at HP
      unfold inkC at HP
      dsimp only at HP
      rw [HC.out] at HP
      have HML := hide (show (mended (blTo cs (q + i) m) q C).length = n by unfold mended; rw [List.length_append, List.length_append, mend_len, List.length_take, List.length_take, List.length_drop, List.length_drop, bl_len, HN.out]; omega)
      have h12 : m = 1 ∨ m = 2 := by omega
      clear hsz hsp hqz hqz2 hq e1 e2 e3 e4 e5
      go_enter Tryd.func63, Tryd.ntmps63
      go_wp2_with (first
        | (go_at_call 86; refine (rvalid_is _ _ HV.out _ _ (HFR.out _ HB0.out)).mono ?_; rintro e w1 ⟨rfl, hb1⟩; have HX1 := hide (HX.out.below hb1); have HB1 := hide (HB0.out.trans (hb1.mono HB0.out.size)); obtain ⟨⟨k0, k1, k2, k3, k4, kf⟩, -, z0, z1, z2, z3, z4, zf⟩ := HX1.out.reads; have hz1 := HX1.out.2.2.lt; clear hb1)
        | (go_at_call 87; refine (rcopy_any _ _ _ (HFR.out _ HB1.out) (by dsimp only; rw [HN.out]; omega) (by dsimp only; rw [HN.out]; omega)).mono ?_; rintro e w2 ⟨v', rfl, hown, hb2⟩; obtain ⟨g, c2, rfl, hcm, how, hBg⟩ := hown.open HN.out (by omega); have HX2 := hide (HX1.out.below hb2); have HOW2 := hide how; obtain ⟨A9, c9, e9, hcc⟩ := how.form; rw [HN.out] at e9 hcc; injection e9 with e9 e9' e9''; subst e9''; have HB2 := hide (fr_below (HB1.out.trans (hb2.mono HB1.out.size)) (Nat.le_refl _) R C (.slice (some ⟨g, 0, none⟩) n c2) fr fc); clear k0 k1 k2 k3 k4 kf z0 z1 z2 z3 z4 zf e9 e9'; obtain ⟨⟨k0, k1, k2, k3, k4, kf⟩, -, -⟩ := HX2.out.reads; clear hown how hb2)
        | (go_at_call 62; refine (rof_is _ _ HC.out _).mono ?_; rintro e w3 ⟨rfl, hb3⟩; have HX3 := hide ((HX2.out.put R C (.slice (some ⟨g, 0, none⟩) n c2) fr fc).below hb3); have HB3 := hide (HB2.out.trans (hb3.mono HB2.out.size)); have HOW3 := hide ((fr_low HOW2.out (show w.heap.size < w1.heap.size by omega) R C (.slice (some ⟨g, 0, none⟩) n c2) fr fc).below hb3); clear k0 k1 k2 k3 k4 kf hb3; obtain ⟨⟨k0, k1, k2, k3, k4, kf⟩, ⟨s0, s1, s2, s3⟩, z0, z1, z2, z3, z4, zf⟩ := HX3.out.reads)
        | (go_at_call 88; refine (rstyle_is ⟨r, wd, fg, bo, un, iv'⟩ _ HS.out _).mono ?_; rintro e w4 ⟨rfl, hb4⟩; have HX4 := hide (HX3.out.below hb4); have HB4 := hide (HB3.out.trans (hb4.mono HB3.out.size)); have HOW4 := hide (HOW3.out.below hb4); clear k0 k1 k2 k3 k4 kf s0 s1 s2 s3 z0 z1 z2 z3 z4 zf hb4; obtain ⟨⟨k0, k1, k2, k3, k4, kf⟩, ⟨s0, s1, s2, s3⟩, z0, z1, z2, z3, z4, zf⟩ := HX4.out.reads)
        | fail)
      have HB5 := HB4
      have HX5 := HX4
      have HOW5 := HOW4
      clear HB2 HB3 HB4 HX1 HX2 HX3 HX4 HX HB0 HOW2 HOW3 HOW4 k0 k1 k2 k3 k4 kf s0 s1 s2 s3 z0 z1 z2 z3 z4 zf
      rw [show q + C - q = C by omega]
      go_loopw [13] (fun iv wr => ∃ j : Nat, iv = .int .i64 j ∧ j ≤ m ∧ Hid (OwnC wr w1.heap.size (.slice (some ⟨g, 0, none⟩) n c2) (blTo cs (q + i) j)) ∧ Hid (Bx3 wr w.heap.size R C (.slice (some ⟨g, 0, none⟩) n c2) fr fc fg bo un iv') ∧ Hid (Below w.heap.size w wr)) (fun iv _ => m - (intOf iv).toNat)
      case atStart => exact ⟨0, rfl, by omega, HOW5, HX5, HB5⟩
      case round =>
        clear HOW5 HX5 HB5
        obtain ⟨j, rfl, hj, HOW5, HX5, HB5⟩ := hrel
        have HBL := hide (show (blTo cs (q + i) j).length = n by rw [bl_len]; exact HN.out)
        obtain ⟨⟨k0, k1, k2, k3, k4, kf⟩, ⟨s0, s1, s2, s3⟩, z0, z1, z2, z3, z4, zf⟩ := HX5.out.reads
        by_cases hlt : j < m
        · have hjC : (i : Int) + (j : Int) < (C : Int) := by omega
          obtain ⟨X0, hX0⟩ : ∃ y, (blTo cs (q + i) j)[q + (i + j)]? = some y := ⟨_, List.getElem?_eq_getElem (by rw [HBL.out]; omega)⟩
          have HXJ := hide hX0
          clear hX0
          go_wp2_with (first
            | (go_at_call 48; refine (blank_any _).mono ?_; rintro e w6 ⟨rfl, hb6⟩; have HB6 := hide (HB5.out.trans (hb6.mono HB5.out.size)); have HX6 := hide (HX5.out.below hb6); have HOW6 := hide (HOW5.out.below hb6); obtain ⟨x0, x1, x2, x3, x4, x5⟩ := own_part (k := q) (j := i + j) HOW6.out HXJ.out; have xf := fun i => HOW6.out.frozen i; clear hb6; unfold clV blankC)
            | fail)
          go_roundw
          case rel => exact ⟨j + 1, by go_num, by omega, hide (by have h9 := own_set_part HOW6.out HBL.out (show q + (i + j) < n by omega) blankC; rw [← Nat.add_assoc q i j] at h9; exact h9), hide (HX6.out.grown (grown6 _ _ _ _ _ _ _ _ _ _ _ _ _ _) (by omega)), hide (HB6.out.grown (grown6 _ g _ _ _ _ _ _ _ _ _ _ _ _) HB6.out.size (fun k e => by cases e; have := HB1.out.size; omega))⟩
          case measure => simp [intOf]; omega
        · obtain rfl : j = m := by omega
          rcases h12 with rfl | rfl
          · have HE := hide (HD1.out (by omega) ⟨r, 1, fg, bo, un, iv'⟩)
            go_wp2_with (first
              | (go_at_call 89; refine (mend_any g n c2 w1.heap.size q C (c2 - q) _ _ HOW5.out HBL.out (by omega) (by omega)).mono ?_; rintro e w7 ⟨rfl, how7, hg7⟩; have HX7 := hide (HX5.out.grown hg7 (by omega)); have HB7 := hide (HB5.out.grown hg7 HB5.out.size (fun k e => by cases e; have := HB1.out.size; omega)); have HOW7 := hide how7; clear k0 k1 k2 k3 k4 kf s0 s1 s2 s3 z0 z1 z2 z3 z4 zf hg7 how7; obtain ⟨⟨k0, k1, k2, k3, k4, kf⟩, ⟨s0, s1, s2, s3⟩, z0, z1, z2, z3, z4, zf⟩ := HX7.out.reads; obtain ⟨X1, hX1⟩ : ∃ y, (mended (blTo cs (q + i) 1) q C)[q + i]? = some y := ⟨_, List.getElem?_eq_getElem (by rw [HML.out]; omega)⟩; obtain ⟨x0, x1, x2, x3, x4, x5⟩ := own_part HOW7.out hX1; clear hX1; have xf := fun i => HOW7.out.frozen i)
              | fail)
            have HX8 := hide (HX7.out.grown (grown6 w7 g (q * 6 + i * 6) (q * 6 + i * 6 + 1) (q * 6 + i * 6 + 2) (q * 6 + i * 6 + 3) (q * 6 + i * 6 + 4) (q * 6 + i * 6 + 5) (.int .i32 r) (.int .i64 1) (.int .i64 fg) (.bool bo) (.bool un) (.bool iv')) (by omega))
            have HB8 := hide (HB7.out.grown (grown6 w7 g (q * 6 + i * 6) (q * 6 + i * 6 + 1) (q * 6 + i * 6 + 2) (q * 6 + i * 6 + 3) (q * 6 + i * 6 + 4) (q * 6 + i * 6 + 5) (.int .i32 r) (.int .i64 1) (.int .i64 fg) (.bool bo) (.bool un) (.bool iv')) HB7.out.size (fun k e => by cases e; have := HB1.out.size; omega))
            have HOW8 := hide (own_set_part HOW7.out HML.out (show q + i < n by omega) ⟨r, 1, fg, bo, un, iv'⟩)
            rw [HE.out] at HOW8
            refine bodyPost_ret (results_cell_row rfl _ _ (w.heap.size + 1 + 1) 35 (frCells R C (.slice (some ⟨g, 0, none⟩) n c2) fr fc).toArray (0, 0) _ rfl (fr_put (HX8.out).2.2 R C (.slice (some ⟨g, 0, none⟩) n c2) fr fc) Tryd.underlying35 rfl (by kernel_rfl)) rfl ⟨_, rfl, ?_, fr_below (HB8.out) (by omega) _ _ _ _ _⟩
            rw [HP.out]
            exact (fr_own (by rw [put_len]; exact HN.out) hcm (fr_low (HOW8.out) (show w.heap.size + 1 + 1 < w1.heap.size by omega) _ _ _ _ _)).mono HB1.out.size
          · have HE := hide (HD2.out (by omega) ⟨r, 2, fg, bo, un, iv'⟩)
            go_wp2_with (first
              | (go_at_call 89; refine (mend_any g n c2 w1.heap.size q C (c2 - q) _ _ HOW5.out HBL.out (by omega) (by omega)).mono ?_; rintro e w7 ⟨rfl, how7, hg7⟩; have HX7 := hide (HX5.out.grown hg7 (by omega)); have HB7 := hide (HB5.out.grown hg7 HB5.out.size (fun k e => by cases e; have := HB1.out.size; omega)); have HOW7 := hide how7; clear k0 k1 k2 k3 k4 kf s0 s1 s2 s3 z0 z1 z2 z3 z4 zf hg7 how7; obtain ⟨⟨k0, k1, k2, k3, k4, kf⟩, ⟨s0, s1, s2, s3⟩, z0, z1, z2, z3, z4, zf⟩ := HX7.out.reads; obtain ⟨X1, hX1⟩ : ∃ y, (mended (blTo cs (q + i) 2) q C)[q + i]? = some y := ⟨_, List.getElem?_eq_getElem (by rw [HML.out]; omega)⟩; obtain ⟨x0, x1, x2, x3, x4, x5⟩ := own_part HOW7.out hX1; clear hX1; obtain ⟨X2, hX2⟩ : ∃ y, (mended (blTo cs (q + i) 2) q C)[q + (i + 1)]? = some y := ⟨_, List.getElem?_eq_getElem (by rw [HML.out]; omega)⟩; obtain ⟨y0, y1, y2, y3, y4, y5⟩ := own_part HOW7.out hX2; clear hX2; have xf := fun i => HOW7.out.frozen i)
              | fail)
            have HX8 := hide (HX7.out.grown (grown6 w7 g (q * 6 + i * 6) (q * 6 + i * 6 + 1) (q * 6 + i * 6 + 2) (q * 6 + i * 6 + 3) (q * 6 + i * 6 + 4) (q * 6 + i * 6 + 5) (.int .i32 r) (.int .i64 2) (.int .i64 fg) (.bool bo) (.bool un) (.bool iv')) (by omega))
            have HB8 := hide (HB7.out.grown (grown6 w7 g (q * 6 + i * 6) (q * 6 + i * 6 + 1) (q * 6 + i * 6 + 2) (q * 6 + i * 6 + 3) (q * 6 + i * 6 + 4) (q * 6 + i * 6 + 5) (.int .i32 r) (.int .i64 2) (.int .i64 fg) (.bool bo) (.bool un) (.bool iv')) HB7.out.size (fun k e => by cases e; have := HB1.out.size; omega))
            have HOW8 := hide (own_set_part HOW7.out HML.out (show q + i < n by omega) ⟨r, 2, fg, bo, un, iv'⟩)
            have HX9 := hide (HX8.out.grown (grown6 _ g (q * 6 + (i + 1) * 6) (q * 6 + (i + 1) * 6 + 1) (q * 6 + (i + 1) * 6 + 2) (q * 6 + (i + 1) * 6 + 3) (q * 6 + (i + 1) * 6 + 4) (q * 6 + (i + 1) * 6 + 5) (.int .i32 0) (.int .i64 0) (.int .i64 fg) (.bool bo) (.bool un) (.bool iv')) (by omega))
            have HB9 := hide (HB8.out.grown (grown6 _ g (q * 6 + (i + 1) * 6) (q * 6 + (i + 1) * 6 + 1) (q * 6 + (i + 1) * 6 + 2) (q * 6 + (i + 1) * 6 + 3) (q * 6 + (i + 1) * 6 + 4) (q * 6 + (i + 1) * 6 + 5) (.int .i32 0) (.int .i64 0) (.int .i64 fg) (.bool bo) (.bool un) (.bool iv')) HB8.out.size (fun k e => by cases e; have := HB1.out.size; omega))
            have HOW9 := hide (own_set_part HOW8.out (by rw [List.length_set]; exact HML.out) (show q + (i + 1) < n by omega) ⟨0, 0, fg, bo, un, iv'⟩)
            rw [← Nat.add_assoc q i 1, show (⟨0, 0, fg, bo, un, iv'⟩ : Cl) = halfC ⟨r, 2, fg, bo, un, iv'⟩ from rfl, HE.out] at HOW9
            refine bodyPost_ret (results_cell_row rfl _ _ (w.heap.size + 1 + 1) 35 (frCells R C (.slice (some ⟨g, 0, none⟩) n c2) fr fc).toArray (0, 0) _ rfl (fr_put (HX9.out).2.2 R C (.slice (some ⟨g, 0, none⟩) n c2) fr fc) Tryd.underlying35 rfl (by kernel_rfl)) rfl ⟨_, rfl, ?_, fr_below (HB9.out) (by omega) _ _ _ _ _⟩
            rw [HP.out]
            exact (fr_own (by rw [put_len]; exact HN.out) hcm (fr_low (HOW9.out) (show w.heap.size + 1 + 1 < w1.heap.size by omega) _ _ _ _ _)).mono HB1.out.size
end Go.Proofs.YtmemdhmjhckmaaaDoor
namespace Go.Proofs.YtmemdhmjhckmaaaDoor
open Go.RowKit
set_option maxRecDepth 100000

theorem TrB.style {w0 W : World} {z g cap : Nat} {t : Tm} (h : TrB w0 W z g cap t) : True := trivial
/-- Put, at a place of the terminal's frame: the new frame's cells lie in a block of their own. -/
theorem rput_any {w0 W : World} {z g cap n : Nat} {t : Tm} (h : TrB w0 W z g cap t) (hI : Inv t) (hn : t.cs.length = n) {r : Int} {m row col : Nat} {x : Cl} (hx : x.r = r) (hm : m = 1 ∨ m = 2) (hr : cells r = m) (hrow : row < t.rows) (hc : col + m ≤ t.cols) (hs : styC x = true) (V : World) (hb : Below W.heap.size W V) :
    Calls Tryd.prog 63 #[.agg #[.int .i64 (t.rows : Int), .int .i64 (t.cols : Int), .slice (some ⟨g, 0, none⟩) n cap, .int .i64 (t.row : Int), .int .i64 (t.col : Int)], .int .i64 (row : Int), .int .i64 (col : Int), .int .i32 r, .agg #[.int .i64 x.fg, .bool x.bo, .bool x.un, .bool x.iv]] V fun e w' =>
      ∃ v, e = .returned v ∧ ∃ g' cap', v = .agg #[.int .i64 (t.rows : Int), .int .i64 (t.cols : Int), .slice (some ⟨g', 0, none⟩) n cap', .int .i64 (t.row : Int), .int .i64 (t.col : Int)] ∧ cap' ≤ maxLen ∧ OwnC w' W.heap.size (.slice (some ⟨g', 0, none⟩) n cap') (putL t.cs (row * t.cols + col) m (inkT r m x)) ∧ W.heap.size ≤ g' ∧ Below W.heap.size W w' := by
  have hfm := put_form hI hx hm hr hrow hc hs
  subst hx
  have hlen : (putL t.cs (row * t.cols + col) m (inkT x.r m x)).length = n := by rw [put_len]; exact hn
  have hn0 : 0 < n := by
    rw [← hn, hI.hL]
    exact Nat.mul_pos (by have := hI.hR; omega) (by have := hI.hC; omega)
  obtain ⟨R, C, cs, row0, col0, p, s, wt, bl⟩ := t
  have hfr := (h.low hb).fr hn
  refine (rput_frame _ _ (row : Int) (col : Int) x V hfr).mono ?_
  rintro e w' ⟨v', rfl, hf, hb2⟩
  have hfm' : putF ⟨R, C, cs, row0, col0⟩ row col x = ⟨R, C, putL cs (row * C + col) m (inkT x.r m x), row0, col0⟩ := hfm
  rw [hfm'] at hf
  obtain ⟨g', cap', rfl, hcap, hown, hg⟩ := hf.open hlen hn0
  exact ⟨_, rfl, g', cap', rfl, hcap, hown.mono hb.size, Nat.le_trans hb.size hg, hb.trans (hb2.mono hb.size)⟩
end Go.Proofs.YtmemdhmjhckmaaaDoor
