/- Contract of limnerref06.Resize. -/
import Derived.Test.YtojjdckpbmjjdaaDoorGaresize
namespace Go.Proofs.YtojjdckpbmjjdaaDoor
open Go.RowKit

theorem bx2_drew {W : World} {z : Nat} {a b c d : Int} {s : Value} (h : Bx2 W z a b s c d) : Bx2 W.drew z a b s c d := h
set_option maxRecDepth 100000 in
set_option maxHeartbeats 4000000 in
theorem rresize_frame (f : Fr) (v : Value) (rows cols : Int) (w : World) (h : FrAt w v f) :
    Calls Tryd.prog 25 #[v, .int .i64 rows, .int .i64 cols] w fun e w' => ∃ v', e = .returned (.tuple #[v', .int .i64 (resE f rows cols)]) ∧ FrOwn w' w.heap.size v' (resF f rows cols) ∧ Below w.heap.size w w' := by
  obtain ⟨A, cap, rfl, hc, hcap, hcl⟩ := h
  obtain ⟨rw0, cl0, cs, fr, fc⟩ := f
  obtain ⟨n, hn⟩ : ∃ n, cs.length = n := ⟨_, rfl⟩
  have HFR := hide (show ∀ W, Below w.heap.size w W → FrAt W (frV ⟨rw0, cl0, cs, fr, fc⟩ A n cap) ⟨rw0, cl0, cs, fr, fc⟩ from fun W hW => ⟨A, cap, by dsimp only; rw [hn], hc, hcap, hcl.below hW⟩)
  have HN := hide hn
  have HCL := hide hcl
  unfold frV at HFR ⊢
  dsimp only at hc HFR HCL ⊢
  rw [hn] at hc ⊢
  clear hcl hn
  have HX := hide (bx2_new w rw0 cl0 (.slice A n cap) fr fc)
  have HB0 := hide (show Below w.heap.size w ((w.alloc (.cells (frCells rw0 cl0 (.slice A n cap) fr fc).toArray 28)).alloc (.cells (frCells 0 0 (.slice none 0 0) 0 0).toArray 28)) from ((Below.refl _ _).alloc (Nat.le_refl _) _).alloc (by simp) _)
  by_cases hmay : mayB rows cols = true
  case neg =>
    have hm0 : mayB rows cols = false := by simpa using hmay
    have HNW := hide (newF_bad hm0)
    have HP := hide (resF_bad (f := ⟨rw0, cl0, cs, fr, fc⟩) (rows := rows) (cols := cols) (by unfold resOk; rw [hm0]; rfl))
    clear hmay hm0
    go_enter Tryd.func25, Tryd.ntmps25
    go_wp2_with (first
      | (go_at_call 12; refine (rnew_frame _ _ _).mono ?_; rintro e w1 ⟨v1, he, hown, hb1⟩; rw [HNW.out.2] at he; rw [HNW.out.1] at hown; subst he; obtain ⟨A1, c1, rfl⟩ := hown.nil_form; have HX2 := hide ((HX.out.below hb1).alloc (.cells #[.int .i64 0, .int .i64 0, .slice A1 0 c1, .int .i64 0, .int .i64 0] 28)); have HB2 := hide ((HB0.out.trans (hb1.mono HB0.out.size)).alloc (Nat.le_trans HB0.out.size hb1.size) (.cells #[.int .i64 0, .int .i64 0, .slice A1 0 c1, .int .i64 0, .int .i64 0] 28)); obtain ⟨z0, z1, z2, z3, z4, zf⟩ := fr_reads HX2.out.2; clear hown hb1)
      | fail)
    refine bodyPost_ret (results_cell_tmp rfl _ _ (w.heap.size + 1) 28 (frCells 0 0 (.slice none 0 0) 0 0).toArray (0, 0) _ (.int .i64 2) rfl rfl (fr_put HX2.out.2 0 0 (.slice none 0 0) 0 0) Tryd.underlying28 rfl (by kernel_rfl)) rfl ⟨_, by rw [HP.out.2], by rw [HP.out.1]; exact fr_nil _ _, fr_below HB2.out (Nat.le_succ _) _ _ _ _ _⟩
  case pos =>
    obtain ⟨m1, m2, m3, m4⟩ := may_t.1 hmay
    obtain ⟨R', rfl⟩ : ∃ R : Nat, rows = R := ⟨rows.toNat, by omega⟩
    obtain ⟨C', rfl⟩ : ∃ C : Nat, cols = C := ⟨cols.toNat, by omega⟩
    have HNW := hide (newF_ok hmay)
    obtain ⟨hs1, hs2⟩ := size_small (R := R') (C := C') (by omega) (by omega) (by omega) (by omega)
    by_cases hv : validF ⟨rw0, cl0, cs, fr, fc⟩ = true
    case neg =>
      have hv0 : validF ⟨rw0, cl0, cs, fr, fc⟩ = false := by simpa using hv
      have HV := hide hv0
      have HP := hide (resF_bad (f := ⟨rw0, cl0, cs, fr, fc⟩) (rows := R') (cols := C') (by unfold resOk; rw [hv0, Bool.and_false]))
      obtain ⟨n', hn'⟩ : ∃ n', R' * C' = n' := ⟨_, rfl⟩
      rw [hn'] at HNW hs1 hs2
      clear hv hv0 hmay hn'
      go_enter Tryd.func25, Tryd.ntmps25
      go_wp2_with (first
        | (go_at_call 12; refine (rnew_frame _ _ _).mono ?_; rintro e w1 ⟨v1, he, hown, hb1⟩; rw [HNW.out.2] at he; rw [HNW.out.1] at hown; subst he; obtain ⟨g, c1, rfl, hcm1, how, hBg⟩ := hown.open (n := n') (by rw [List.length_replicate]) (by omega); rw [World.size_alloc, World.size_alloc] at how hBg; have hgl := how.inb; obtain ⟨A9, c9, e9, hcc⟩ := how.form; rw [List.length_replicate] at e9 hcc; injection e9 with e9 e9' e9''; subst e9''; have HX2 := hide ((HX.out.below hb1).alloc (.cells #[.int .i64 R', .int .i64 C', .slice (some ⟨g, 0, none⟩) n' c1, .int .i64 0, .int .i64 0] 28)); have HB2 := hide ((HB0.out.trans (hb1.mono HB0.out.size)).alloc (Nat.le_trans HB0.out.size hb1.size) (.cells #[.int .i64 R', .int .i64 C', .slice (some ⟨g, 0, none⟩) n' c1, .int .i64 0, .int .i64 0] 28)); have HOW2 := hide (how.below ((Below.refl _ _).alloc (Nat.le_refl _) (.cells #[.int .i64 R', .int .i64 C', .slice (some ⟨g, 0, none⟩) n' c1, .int .i64 0, .int .i64 0] 28))); have HF2 := hide (show Blk (w1.alloc (.cells #[.int .i64 R', .int .i64 C', .slice (some ⟨g, 0, none⟩) n' c1, .int .i64 0, .int .i64 0] 28)) w1.heap.size 28 (frCells R' C' (.slice (some ⟨g, 0, none⟩) n' c1) 0 0) from Blk.new w1 _ _); have hzz := (HX.out.below hb1).2.lt; obtain ⟨⟨k0, k1, k2, k3, k4, kf⟩, z0, z1, z2, z3, z4, zf⟩ := HX2.out.reads; clear hown hb1 how e9 e9')
        | (go_at_call 27; go_loud (refine (rvalid_is _ _ HV.out _ _ (HFR.out _ HB2.out)).mono ?_; rintro e w3 ⟨rfl, hb3⟩; have HX3 := hide (HX2.out.below hb3); have HB3 := hide (HB2.out.trans (hb3.mono HB2.out.size)); have HOW3 := hide (HOW2.out.below hb3); have HF3 := hide (HF2.out.below hb3); clear k0 k1 k2 k3 k4 kf z0 z1 z2 z3 z4 zf hb3; obtain ⟨⟨k0, k1, k2, k3, k4, kf⟩, z0, z1, z2, z3, z4, zf⟩ := HX3.out.reads))
        | fail)
      refine bodyPost_ret (results_cell_tmp rfl _ _ (w.heap.size + 1) 28 (frCells 0 0 (.slice none 0 0) 0 0).toArray (0, 0) _ (.int .i64 2) rfl rfl (fr_put HX3.out.2 0 0 (.slice none 0 0) 0 0) Tryd.underlying28 rfl (by kernel_rfl)) rfl ⟨_, by rw [HP.out.2], by rw [HP.out.1]; exact fr_nil _ _, fr_below HB3.out (Nat.le_succ _) _ _ _ _ _⟩
    case pos =>
      have HV := hide hv
      have HP := hide (resF_ok (f := ⟨rw0, cl0, cs, fr, fc⟩) (show resOk ⟨rw0, cl0, cs, fr, fc⟩ R' C' = true by unfold resOk; rw [hmay, hv]; rfl))
      obtain ⟨R, C, hR, hC, h1, h2, h3, h4, hL, q1, q2, q3, q4, hvl⟩ := valid_facts hv
      dsimp only at hR hC hL q1 q2 q3 q4 hvl
      subst hR hC
      obtain ⟨b, o, hA, -⟩ := ClsAt.at (j := 0) HCL.out (List.getElem?_eq_getElem (show 0 < cs.length by rw [hL]; have := (size_small h1 h2 h3 h4).1; omega))
      subst hA
      have hLs := (size_small h1 h2 h3 h4).2
      obtain ⟨n', hn'⟩ : ∃ n', R' * C' = n' := ⟨_, rfl⟩
      rw [hn'] at HNW hs1 hs2
      have hnRC : n = R * C := by rw [← HN.out]; exact hL
      have HNRC := hide hnRC
      have HVL := hide hvl
      have HN' := hide hn'
      obtain ⟨m, hm⟩ : ∃ m, min R' R = m := ⟨_, rfl⟩
      have hmz : min (R' : Int) (R : Int) = (m : Int) := by rw [← hm]; omega
      have hmR : m ≤ R ∧ m ≤ R' ∧ (m = R ∨ m = R') := by omega
      obtain ⟨d, hd⟩ : ∃ d, C' = d + 1 := ⟨C' - 1, by omega⟩
      have hdz : (C' : Int) - 1 = (d : Int) := by omega
      have HD := hide hd
      clear hd
      have hrz : (R' : Int) - 1 ≤ 100 := by omega
      rw [← hnRC] at hLs
      dsimp only at HP
      simp only [Int.toNat_natCast] at HP
      obtain ⟨fr2, hfr2⟩ : ∃ x, min fr ((R' : Int) - 1) = x := ⟨_, rfl⟩
      obtain ⟨fc2, hfc2⟩ : ∃ x, min fc (d : Int) = x := ⟨_, rfl⟩
      rw [hm, hdz, hfr2, hfc2] at HP
      clear hv hvl hL hnRC hmay hn' hm
      go_enter Tryd.func25, Tryd.ntmps25
      go_wp2_with (first
        | (go_at_call 12; refine (rnew_frame _ _ _).mono ?_; rintro e w1 ⟨v1, he, hown, hb1⟩; rw [HNW.out.2] at he; rw [HNW.out.1] at hown; subst he; obtain ⟨g, c1, rfl, hcm1, how, hBg⟩ := hown.open (n := n') (by rw [List.length_replicate]) (by omega); rw [World.size_alloc, World.size_alloc] at how hBg; have hgl := how.inb; obtain ⟨A9, c9, e9, hcc⟩ := how.form; rw [List.length_replicate] at e9 hcc; injection e9 with e9 e9' e9''; subst e9''; have HX2 := hide ((HX.out.below hb1).alloc (.cells #[.int .i64 R', .int .i64 C', .slice (some ⟨g, 0, none⟩) n' c1, .int .i64 0, .int .i64 0] 28)); have HB2 := hide ((HB0.out.trans (hb1.mono HB0.out.size)).alloc (Nat.le_trans HB0.out.size hb1.size) (.cells #[.int .i64 R', .int .i64 C', .slice (some ⟨g, 0, none⟩) n' c1, .int .i64 0, .int .i64 0] 28)); have HOW2 := hide (how.below ((Below.refl _ _).alloc (Nat.le_refl _) (.cells #[.int .i64 R', .int .i64 C', .slice (some ⟨g, 0, none⟩) n' c1, .int .i64 0, .int .i64 0] 28))); have HF2 := hide (show Blk (w1.alloc (.cells #[.int .i64 R', .int .i64 C', .slice (some ⟨g, 0, none⟩) n' c1, .int .i64 0, .int .i64 0] 28)) w1.heap.size 28 (frCells R' C' (.slice (some ⟨g, 0, none⟩) n' c1) 0 0) from Blk.new w1 _ _); have hzz := (HX.out.below hb1).2.lt; obtain ⟨⟨k0, k1, k2, k3, k4, kf⟩, z0, z1, z2, z3, z4, zf⟩ := HX2.out.reads; clear hown hb1 how e9 e9')
        | (go_at_call 27; go_loud (refine (rvalid_is _ _ HV.out _ _ (HFR.out _ HB2.out)).mono ?_; rintro e w3 ⟨rfl, hb3⟩; have HX3 := hide (HX2.out.below hb3); have HB3 := hide (HB2.out.trans (hb3.mono HB2.out.size)); have HOW3 := hide (HOW2.out.below hb3); have HF3 := hide (HF2.out.below hb3); clear k0 k1 k2 k3 k4 kf z0 z1 z2 z3 z4 zf hb3; obtain ⟨⟨k0, k1, k2, k3, k4, kf⟩, z0, z1, z2, z3, z4, zf⟩ := HX3.out.reads))
        | fail)
      have hgw : ¬ g = w1.heap.size := by omega
      have hgw' : ¬ w1.heap.size = g := by omega
      have hgz : w.heap.size + 1 < g := by omega
      have hwz : w.heap.size + 1 < w1.heap.size := by omega
      have hw0 : ¬ w1.heap.size = w.heap.size := by omega
      have hw8 : w.heap.size ≤ w1.heap.size := by omega
      have hw9 : ¬ w1.heap.size = w.heap.size + 1 := by omega
      go_loopw [10] (fun iv wr => ∃ i : Nat, iv = .int .i64 i ∧ i ≤ m ∧ Hid (OwnC wr (w.heap.size + 1 + 1) (.slice (some ⟨g, 0, none⟩) n' c1) (resTo cs C C' R' i)) ∧ Hid (Bx2 wr w.heap.size R C (.slice (some ⟨b, o, none⟩) n cap) fr fc) ∧ Hid (Blk wr w1.heap.size 28 (frCells R' C' (.slice (some ⟨g, 0, none⟩) n' c1) 0 0)) ∧ Hid (Below w.heap.size w wr)) (fun iv _ => m - (intOf iv).toNat)
      case atStart => exact ⟨0, rfl, by omega, hide (by have h9 := HOW3.out; rw [← HN'.out] at h9 ⊢; exact h9), HX3, HF3, HB3⟩
      case round =>
        clear HX HX2 HX3 HB0 HB2 HB3 HOW2 HOW3 HF2 HF3 k0 k1 k2 k3 k4 kf z0 z1 z2 z3 z4 zf
        obtain ⟨i, rfl, hi, HOW, HX, HF, HB⟩ := hrel
        obtain ⟨⟨k0, k1, k2, k3, k4, kf⟩, z0, z1, z2, z3, z4, zf⟩ := HX.out.reads
        obtain ⟨f0, f1, f2, f3, f4, ff⟩ := fr_reads HF.out
        have HM := hide (resTo_len cs C C' R' i (by omega))
        by_cases hlt : i < m
        · have hlt1 : i < R' := by omega
          have hlt2 : i < R := by omega
          have hS := rowL_len (L := cs) (rows := R) (cols := C) (k := i) (by rw [HN.out]; exact HNRC.out) (by omega)
          have HS := hide hS
          have hp1 := part_len (L := cs) (R := R) (C := C) (i := i) (by rw [HN.out]; exact HNRC.out) (by omega)
          have hq1 := part_len HM.out (show i < R' by omega)
          rw [← HNRC.out] at hp1
          rw [HN'.out] at hq1
          have HD0 := hide (res_doc0 (S := rowL cs C i) HM.out hlt1 (res_row0 hlt1))
          have HD1 := hide (fun j x hj hx => res_doc1 (S := rowL cs C i) (j := j) (x := x) HM.out hlt1 hj hx)
          have HDOC2 := hide (res_doc2 (C := C) HM.out hlt1 (by omega) hS (by have h9 := HVL.out; rw [valid_rows] at h9; exact h9 i hlt2))
          have HML := hide (fun l => (replR_len HM.out hlt1 (fill_len l C')).trans HN'.out)
          obtain ⟨p, hp⟩ : ∃ p, i * C = p := ⟨_, rfl⟩
          obtain ⟨q, hq⟩ : ∃ q, i * C' = q := ⟨_, rfl⟩
          have hw1 := wrap_mul hp (by omega)
          have hw2 := wrap_mul hq (by omega)
          have hw3 := wrap_mul1 hq (by omega)
          have HSL := hide (show ∀ j, j < C → (rowL cs C i)[j]? = cs[p + j]? from fun j hj => by rw [← hp]; exact rowL_at hj)
          rw [hp] at hp1
          rw [hq] at hq1 HD1 HDOC2
          obtain ⟨mc, hmc⟩ : ∃ mc, min C' C = mc := ⟨_, rfl⟩
          rw [hmc] at HDOC2
          have hmcR : mc ≤ C ∧ mc ≤ C' ∧ (mc = C ∨ mc = C') := by omega
          clear hp hq hS hmc
          go_wp2
          go_loopw [11] (fun iv wr => ∃ j : Nat, iv = .int .i64 j ∧ j ≤ mc ∧ Hid (OwnC wr (w.heap.size + 1 + 1) (.slice (some ⟨g, 0, none⟩) n' c1) (replR (resTo cs C C' R' i) C' i (fillL ((rowL cs C i).take j) C'))) ∧ Hid (Bx2 wr w.heap.size R C (.slice (some ⟨b, o, none⟩) n cap) fr fc) ∧ Hid (Blk wr w1.heap.size 28 (frCells R' C' (.slice (some ⟨g, 0, none⟩) n' c1) 0 0)) ∧ Hid (Below w.heap.size w wr)) (fun iv _ => mc - (intOf iv).toNat)
          case atStart => exact ⟨0, rfl, by omega, hide (by rw [← HD0.out]; exact HOW.out), HX, HF, HB⟩
          case round =>
            clear HX HF HB HOW k0 k1 k2 k3 k4 kf z0 z1 z2 z3 z4 zf f0 f1 f2 f3 f4 ff
            obtain ⟨j, rfl, hj, HOW, HX, HF, HB⟩ := hrel
            obtain ⟨⟨k0, k1, k2, k3, k4, kf⟩, z0, z1, z2, z3, z4, zf⟩ := HX.out.reads
            obtain ⟨f0, f1, f2, f3, f4, ff⟩ := fr_reads HF.out
            by_cases hjm : j < mc
            · have hj1 : j < C' := by omega
              have hj2 : j < C := by omega
              obtain ⟨X, hX⟩ : ∃ X, cs[p + j]? = some X := ⟨_, List.getElem?_eq_getElem (by rw [HN.out]; omega)⟩
              have HST := hide (HD1.out j X hj1 (by rw [HSL.out j hj2]; exact hX))
              obtain ⟨x0, x1, x2, x3, x4, x5⟩ := (show ClsAt _ _ _ from HCL.out.below HB.out).get hX
              obtain ⟨Y, hY⟩ : ∃ Y, (replR (resTo cs C C' R' i) C' i (fillL ((rowL cs C i).take j) C'))[q + j]? = some Y := ⟨_, List.getElem?_eq_getElem (by rw [HML.out]; omega)⟩
              obtain ⟨y0, y1, y2, y3, y4, y5⟩ := HOW.out.cls.get hY
              rw [Nat.zero_add] at y0 y1 y2 y3 y4 y5
              have yf := fun i => HOW.out.frozen i
              have hpj : (p : Int) + (j : Int) < (n : Int) := by omega
              have hqj : (q : Int) + (j : Int) < (n' : Int) := by omega
              clear hX hY
              obtain ⟨xr, xw, xf, xb, xu, xi⟩ := X
              dsimp only at x0 x1 x2 x3 x4 x5
              go_wp2
              go_region
              all_goals go_wp2
              have key : ∀ WW, WW = ((((((wr.setCell ⟨g, (q + j) * 6, none⟩ (.int .i32 xr)).setCell ⟨g, (q + j) * 6 + 1, none⟩ (.int .i64 xw)).setCell ⟨g, (q + j) * 6 + 2, none⟩ (.int .i64 xf)).setCell ⟨g, (q + j) * 6 + 3, none⟩ (.bool xb)).setCell ⟨g, (q + j) * 6 + 4, none⟩ (.bool xu)).setCell ⟨g, (q + j) * 6 + 5, none⟩ (.bool xi)).drew → OwnC WW (w.heap.size + 1 + 1) (.slice (some ⟨g, 0, none⟩) n' c1) (replR (resTo cs C C' R' i) C' i (fillL ((rowL cs C i).take (j + 1)) C')) ∧ Bx2 WW w.heap.size R C (.slice (some ⟨b, o, none⟩) n cap) fr fc ∧ Blk WW w1.heap.size 28 (frCells R' C' (.slice (some ⟨g, 0, none⟩) n' c1) 0 0) ∧ Below w.heap.size w WW := by
                rintro _ rfl
                have hgr := grown6 wr g ((q + j) * 6) ((q + j) * 6 + 1) ((q + j) * 6 + 2) ((q + j) * 6 + 3) ((q + j) * 6 + 4) ((q + j) * 6 + 5) (.int .i32 xr) (.int .i64 xw) (.int .i64 xf) (.bool xb) (.bool xu) (.bool xi)
                have h9 := own_drew (own_set6 HOW.out (HML.out _) (show q + j < n' by omega) ⟨xr, xw, xf, xb, xu, xi⟩)
                rw [HST.out] at h9
                exact ⟨h9, bx2_drew (HX.out.grown hgr hgz), (HF.out.grown hgr hgw').drew, (HB.out.grown hgr HB.out.size (fun k e => by cases e; omega)).drew⟩
              obtain ⟨K1, K2, K3, K4⟩ := key _ rfl
              go_roundw
              case rel => exact ⟨j + 1, by go_num, by omega, hide K1, hide K2, hide K3, hide K4⟩
              case measure => simp [intOf]; omega
            · obtain rfl : j = mc := by omega
              have hx : (C' : Int) ≤ (j : Int) ∨ ((j : Int) < (C' : Int) ∧ (C : Int) ≤ (j : Int)) := by omega
              rcases hx with hx | ⟨hx, hx'⟩
              all_goals
                go_wp2_with (first
                  | (go_at_call 38; refine (mend_any g n' c1 (w.heap.size + 1 + 1) q C' (c1 - q) _ _ HOW.out (HML.out _) (by omega) (by omega)).mono ?_; rintro e w7 ⟨rfl, how7, hg7⟩; rw [HDOC2.out] at how7; have HX7 := hide (HX.out.grown hg7 hgz); have HF7 := hide (HF.out.grown hg7 hgw'); have HB7 := hide (HB.out.grown hg7 HB.out.size (fun k e => by cases e; omega)); have HOW7 := hide how7; clear hg7 how7)
                  | fail)
                go_roundw
                case rel => exact ⟨i + 1, by go_num, by omega, HOW7, HX7, HF7, HB7⟩
                case measure => simp [intOf]; omega
        · obtain rfl : i = m := by omega
          have hx : (R' : Int) ≤ (i : Int) ∨ ((i : Int) < (R' : Int) ∧ (R : Int) ≤ (i : Int)) := by omega
          rcases hx with hx | ⟨hx, hx'⟩
          all_goals
            go_wp2
            go_region
            all_goals go_wp2
            have key : ∀ WW, WW = (frSet ((wr.setCell ⟨w1.heap.size, 3, none⟩ (.int .i64 fr2)).setCell ⟨w1.heap.size, 4, none⟩ (.int .i64 fc2)) (w.heap.size + 1) R' C' (.slice (some ⟨g, 0, none⟩) n' c1) fr2 fc2).drew → Blk WW (w.heap.size + 1) 28 (frCells R' C' (.slice (some ⟨g, 0, none⟩) n' c1) fr2 fc2) ∧ OwnC WW (w.heap.size + 1 + 1) (.slice (some ⟨g, 0, none⟩) n' c1) (resTo cs C C' R' i) ∧ Below w.heap.size w WW := by
              rintro _ rfl
              exact ⟨(fr_put ((HX.out.2.far (p := ⟨w1.heap.size, 3, none⟩) hw9 (.int .i64 fr2)).far (p := ⟨w1.heap.size, 4, none⟩) hw9 (.int .i64 fc2)) R' C' (.slice (some ⟨g, 0, none⟩) n' c1) fr2 fc2).drew, own_drew (fr_low ((HOW.out.off (p := ⟨w1.heap.size, 3, none⟩) hgw' (.int .i64 fr2)).off (p := ⟨w1.heap.size, 4, none⟩) hgw' (.int .i64 fc2)) (Nat.lt_succ_self _) R' C' (.slice (some ⟨g, 0, none⟩) n' c1) fr2 fc2), (fr_below ((HB.out.setCell (p := ⟨w1.heap.size, 3, none⟩) hw8 (.int .i64 fr2)).setCell (p := ⟨w1.heap.size, 4, none⟩) hw8 (.int .i64 fc2)) (Nat.le_succ _) R' C' (.slice (some ⟨g, 0, none⟩) n' c1) fr2 fc2).drew⟩
            have hkey := key _ rfl
            unfold frSet at hkey
            refine bodyPost_ret (results_cell_tmp rfl _ _ (w.heap.size + 1) 28 (frCells R' C' (.slice (some ⟨g, 0, none⟩) n' c1) fr2 fc2).toArray (0, 0) _ (.int .i64 0) rfl rfl hkey.1 Tryd.underlying28 rfl (by kernel_rfl)) rfl ⟨_, by rw [HP.out.2], ?_, hkey.2.2⟩
            rw [HP.out.1]
            exact (fr_own (HM.out.trans HN'.out) hcm1 hkey.2.1).mono (show w.heap.size ≤ w.heap.size + 1 + 1 by omega)
end Go.Proofs.YtojjdckpbmjjdaaDoor
