/- Walk of the law GridsBack. -/
import Derived.Test.YtojjdckpbmjjdaaDoorGlkeep
namespace Go.Proofs.YtojjdckpbmjjdaaDoor
open Go.RowKit

theorem paint_bd (p : Pt) : 2 ≤ (paintF p).rows ∧ (paintF p).rows ≤ 10 ∧ 8 ≤ (paintF p).cols ∧ (paintF p).cols ≤ 20 := by
  have h1 := nm_bd p.rows (m := 9) (by omega)
  have h2 := nm_bd p.cols (m := 13) (by omega)
  rw [(paintF_size p).1, (paintF_size p).2]
  omega
theorem resF_len {f : Fr} {r c : Int} (h : validF f = true) (hm : mayB r c = true) : ((resF f r c).cs.length : Int) = r * c := by
  obtain ⟨-, hv⟩ := resE_ok h hm
  obtain ⟨R, C, hR, hC, -, -, -, -, hL, -⟩ := valid_facts hv
  have hok : resOk f r c = true := by unfold resOk; rw [h, hm]; rfl
  have e1 : (resF f r c).rows = r := by unfold resF; rw [if_pos hok]
  have e2 : (resF f r c).cols = c := by unfold resF; rw [if_pos hok]
  rw [e1] at hR
  rw [e2] at hC
  rw [hL, hR, hC]
  push_cast
  rfl
theorem valid_len {f : Fr} (h : validF f = true) : (f.cs.length : Int) = f.rows * f.cols := by
  obtain ⟨R, C, hR, hC, -, -, -, -, hL, -⟩ := valid_facts h
  rw [hL, hR, hC]
  push_cast
  rfl
set_option maxRecDepth 100000 in
set_option maxHeartbeats 4000000 in
theorem back_great (p : Pt) (s0 s1 : Int) (v : Value) (w : World) (h : PtAt w v p) (hT : WTabs w) (hB : BTab w) (h0 : 0 ≤ s0 ∧ s0 ≤ 255 ∧ 0 ≤ s1 ∧ s1 ≤ 255) (hg : decide (60 < p.ink.length) = true) :
    Calls Tryd.prog 7 #[v, .agg #[.int .u8 s0, .int .u8 s1]] w fun e w' => e = .returned (.bool true) ∧ Below w.heap.size w w' := by
  have HG := hide hg
  have HP := hide h
  have HT := hide (And.intro hT hB)
  obtain ⟨A, n, cap, rfl, -, -, -⟩ := pt_form h
  clear h hT hB hg
  have HA := hide (((Below.refl w.heap.size w).alloc (Nat.le_refl _) (.cells #[.int .i64 p.rows, .int .i64 p.cols, .slice A n cap, .int .i64 p.row, .int .i64 p.col] 24)).alloc (by simp) (.cells #[.int .u8 s0, .int .u8 s1] 49))
  go_enter Tryd.func7, Tryd.ntmps7
  go_wp2_with fail
  refine (great_is p true HG.out _ _ (HP.out.below HA.out)).mono ?_
  rintro e w1 ⟨rfl, hb1⟩
  have HA1 := hide (below_next HA.out hb1)
  clear hb1
  go_wp2_with fail
  refine (shown_any _ (tabs_below HT.out HA1.out).1 (tabs_below HT.out HA1.out).2).mono ?_
  rintro e w2 ⟨rfl, hb2⟩
  have HA2 := hide (below_next HA1.out hb2)
  clear hb2
  go_wp2_with fail
  go_ret
  exact ⟨rfl, HA2.out⟩
set_option maxRecDepth 100000 in
set_option maxHeartbeats 4000000 in
theorem law_back (p : Pt) (s0 s1 : Int) (v : Value) (w : World) (h : PtAt w v p) (hT : WTabs w) (hB : BTab w) (h0 : 0 ≤ s0 ∧ s0 ≤ 255 ∧ 0 ≤ s1 ∧ s1 ≤ 255)  :
    Calls Tryd.prog 7 #[v, .agg #[.int .u8 s0, .int .u8 s1]] w fun e w' => e = .returned (.bool true) ∧ Below w.heap.size w w' := by
  by_cases hg : decide (60 < p.ink.length) = true
  · exact back_great p s0 s1 v w h hT hB h0 hg
  have HG := hide (show decide (60 < p.ink.length) = false by simpa using hg)
  have hl := hide (show p.ink.length ≤ 60 by simpa using hg)
  have HP := hide h
  have HT := hide (And.intro hT hB)
  obtain ⟨A, n, cap, rfl, -, -, -⟩ := pt_form h
  clear h hT hB hg
  obtain ⟨q1, q2, q3, q4⟩ := h0
  have HA := hide (((Below.refl w.heap.size w).alloc (Nat.le_refl _) (.cells #[.int .i64 p.rows, .int .i64 p.cols, .slice A n cap, .int .i64 p.row, .int .i64 p.col] 24)).alloc (by simp) (.cells #[.int .u8 s0, .int .u8 s1] 49))
  have HK := hide (show Blk ((w.alloc (.cells #[.int .i64 p.rows, .int .i64 p.cols, .slice A n cap, .int .i64 p.row, .int .i64 p.col] 24)).alloc (.cells #[.int .u8 s0, .int .u8 s1] 49)) w.heap.size 24 (ptCells p A n cap) from (Blk.new w _ _).alloc _)
  have HZ := hide (show Blk ((w.alloc (.cells #[.int .i64 p.rows, .int .i64 p.cols, .slice A n cap, .int .i64 p.row, .int .i64 p.col] 24)).alloc (.cells #[.int .u8 s0, .int .u8 s1] 49)) (w.heap.size + 1) 49 [.int .u8 s0, .int .u8 s1] from Blk.newAt (W := w.alloc (.cells #[.int .i64 p.rows, .int .i64 p.cols, .slice A n cap, .int .i64 p.row, .int .i64 p.col] 24)) (cs := [.int .u8 s0, .int .u8 s1]) (World.size_alloc _ _))
  go_enter Tryd.func7, Tryd.ntmps7
  go_wp2_with fail
  refine (great_is p false HG.out _ _ (HP.out.below HA.out)).mono ?_
  rintro e w1 ⟨rfl, hb1⟩
  have HA1 := hide (below_next HA.out hb1)
  have HZ1 := hide (HZ.out.below hb1)
  obtain ⟨k0, k1, k2, k3, k4⟩ := pt_reads (HK.out.below hb1)
  clear hb1 HA HZ
  go_wp2_with fail
  refine (frame_any p _ _ (HP.out.below HA1.out) hl.out).mono ?_
  rintro e w2 ⟨v2, rfl, hown, hb2⟩
  obtain ⟨f, hf⟩ : ∃ f, paintF p = f := ⟨_, rfl⟩
  have HV := hide (show validF f = true by rw [← hf]; exact paintF_valid p)
  obtain ⟨b1, b2, b3, b4⟩ := paint_bd p
  rw [hf] at hown b1 b2 b3 b4
  obtain ⟨fA, fn, fc, rfl, -, -, -⟩ := hown.at.form
  have HF := hide hown.at.box
  have hba := below_next hb2 (fr_alloc w2 f fA fn fc)
  have HA2 := hide (below_next HA1.out hba)
  have HZ2 := hide (HZ1.out.below hba)
  have HT2 := hide (tabs_below HT.out HA2.out)
  clear hb2 hf hown k0 k1 k2 k3 k4 HK HA1 HZ1 hba
  have z0 := HZ2.out.cell (i := 0) rfl
  have z1 := HZ2.out.cell (i := 1) rfl
  have zl := HZ2.out.lt
  obtain ⟨C, hC⟩ : ∃ C : Nat, f.cols = C := ⟨f.cols.toNat, by omega⟩
  obtain ⟨R, hR⟩ : ∃ R : Nat, f.rows = R := ⟨f.rows.toNat, by omega⟩
  have HCR := hide (And.intro hC hR)
  clear hC hR
  go_wp2_with fail
  obtain ⟨D, hD⟩ : ∃ D, w2.heap.size = D := ⟨_, rfl⟩
  rw [hD] at HF ⊢
  clear hD
  obtain ⟨m0, hm0⟩ : ∃ m, f.rows + s0 % 50 = m := ⟨_, rfl⟩
  obtain ⟨m1, hm1⟩ : ∃ m, f.cols + s1 % 100 = m := ⟨_, rfl⟩
  have hm2 : 2 ≤ m0 ∧ m0 ≤ 100 ∧ 8 ≤ m1 ∧ m1 ≤ 200 := by omega
  have hm3 : f.rows ≤ m0 ∧ f.cols ≤ m1 := by omega
  rw [hm0, hm1]
  obtain ⟨hre, hrv⟩ := resE_ok HV.out (may_of hm2)
  have hback := res_back HV.out (may_of hm2) hm3.1 hm3.2
  obtain ⟨g, hg⟩ : ∃ q, resF f m0 m1 = q := ⟨_, rfl⟩
  rw [hg] at hrv hback
  have HRE := hide hre
  have HVg := hide hrv
  have HBK := hide hback
  have HEB := hide (resE_ok hrv (may_of (r := f.rows) (c := f.cols) (by omega))).1
  have HG2 := hide hg
  clear hre hrv hback hg hm0 hm1 hm2 hm3
  refine (resize_frame f _ m0 m1 _ HF.out.2 HT2.out.1 HT2.out.2).mono ?_
  rintro e w3 ⟨v3, rfl, hown, hb3⟩
  rw [HRE.out]
  rw [HG2.out] at hown
  obtain ⟨gA, gn, gc, rfl, -, -, -⟩ := hown.at.form
  have HGb := hide hown.at.box
  have hba := below_next hb3 (fr_alloc w3 g gA gn gc)
  have HF3 := hide (HF.out.below hba)
  have HA3 := hide (below_next HA2.out hba)
  have HZ3 := hide (HZ2.out.below hba)
  have HT3 := hide (tabs_below HT2.out hba)
  clear hb3 hba hown HF HA2 HZ2 HT2 z0 z1 zl HRE HG2
  obtain ⟨f0, f1, f2, f3, f4⟩ := HF3.out.reads
  have hfl := HF3.out.lt
  go_wp2_with fail
  obtain ⟨E, hE⟩ : ∃ D, w3.heap.size = D := ⟨_, rfl⟩
  rw [hE] at HGb ⊢
  clear hE
  refine (resize_frame g _ f.rows f.cols _ HGb.out.2 HT3.out.1 HT3.out.2).mono ?_
  rintro e w4 ⟨v4, rfl, hown, hb4⟩
  rw [HEB.out]
  rw [HBK.out] at hown
  obtain ⟨hA, hn, hc, rfl, -, -, -⟩ := hown.at.form
  have HHb := hide hown.at.box
  have hba := below_next hb4 (fr_alloc w4 f hA hn hc)
  have HF4 := hide (HF3.out.below hba)
  have HA4 := hide (below_next HA3.out hba)
  have HZ4 := hide (HZ3.out.below hba)
  have HT4 := hide (tabs_below HT3.out hba)
  clear hb4 hba hown HF3 HA3 HZ3 HT3 f0 f1 f2 f3 f4 hfl HEB HBK HGb
  obtain ⟨f0, f1, f2, f3, f4⟩ := HF4.out.reads
  have hfl := HF4.out.lt
  go_wp2_with fail
  refine (same_is f f true (decide_eq_true rfl) _ _ _ HF4.out.2 HHb.out.2).mono ?_
  rintro e w5 ⟨rfl, hb5⟩
  have HF5 := hide (HF4.out.below hb5)
  have HA5 := hide (below_next HA4.out hb5)
  have HZ5 := hide (HZ4.out.below hb5)
  have HT5 := hide (tabs_below HT4.out hb5)
  clear hb5 HF4 HA4 HZ4 HT4 f0 f1 f2 f3 f4 hfl HHb
  have z0 := HZ5.out.cell (i := 0) rfl
  have z1 := HZ5.out.cell (i := 1) rfl
  obtain ⟨f0, f1, f2, f3, f4⟩ := HF5.out.reads
  obtain ⟨a, ha⟩ : ∃ a, s0 % (f.rows - 1) = a := ⟨_, rfl⟩
  obtain ⟨c, hc'⟩ : ∃ a, s1 % (f.cols - 7) = a := ⟨_, rfl⟩
  have ha1 : 0 ≤ a := by rw [← ha]; exact Int.emod_nonneg _ (by omega)
  have ha2 : a < f.rows - 1 := by rw [← ha]; exact Int.emod_lt_of_pos _ (by omega)
  have hc1 : 0 ≤ c := by rw [← hc']; exact Int.emod_nonneg _ (by omega)
  have hc2 : c < f.cols - 7 := by rw [← hc']; exact Int.emod_lt_of_pos _ (by omega)
  have ha3 : Int.tmod s0 (f.rows - 1) = a := by rw [Int.tmod_eq_emod_of_nonneg q1]; exact ha
  have hc3 : Int.tmod s1 (f.cols - 7) = c := by rw [Int.tmod_eq_emod_of_nonneg q3]; exact hc'
  have wr1 : IntKind.i64.wrap (f.rows - 1) = f.rows - 1 := by simp [IntKind.wrap_i64]; omega
  have wr2 : IntKind.i64.wrap (f.cols - 7) = f.cols - 7 := by simp [IntKind.wrap_i64]; omega
  have wr3 : IntKind.i64.wrap (2 + a) = 2 + a := by simp [IntKind.wrap_i64]; omega
  have wr4 : IntKind.i64.wrap (8 + c) = 8 + c := by simp [IntKind.wrap_i64]; omega
  have wr5 : ¬ f.rows - 1 = 0 := by omega
  have wr6 : ¬ f.cols - 7 = 0 := by omega
  go_wp2_with fail
  go_quiet (fail)
  go_wp2_with fail
  obtain ⟨M, hM⟩ : ∃ M : Nat, 2 + a = (M : Int) := ⟨(2 + a).toNat, by omega⟩
  obtain ⟨N, hN⟩ : ∃ N : Nat, 8 + c = (N : Int) := ⟨(8 + c).toNat, by omega⟩
  have hm1 : (M : Int) ≤ f.rows := by omega
  have hm2 : (N : Int) ≤ f.cols := by omega
  have hm3 : 2 ≤ M := by omega
  have hm4 : 8 ≤ N := by omega
  have hm5 : M ≤ 10 := by omega
  have hm6 : N ≤ 20 := by omega
  rw [hM, hN]
  have hM' := hide hM
  have hN' := hide hN
  have HD5 := hide (below_drewG (Below.refl w5.heap.size w5) nq)
  have HF6 := hide (HF5.out.below HD5.out)
  have HA6 := hide (below_next HA5.out HD5.out)
  have HT6 := hide (tabs_below HT5.out HD5.out)
  clear ha hc' ha1 ha2 hc1 hc2 ha3 hc3 wr1 wr2 wr3 wr4 wr5 wr6 hM hN z0 z1 f0 f1 f2 f3 f4 HF5 HA5 HZ5 HT5
  have hmay : mayB (M : Int) (N : Int) = true := may_of (by omega)
  obtain ⟨hre, hrv⟩ := resE_ok HV.out hmay
  have HFO := hide (fun (j : Nat) (hj : j < f.cs.length) => res_fore HV.out hmay hm1 hm2 hj)
  obtain ⟨x, hx⟩ : ∃ q, resF f M N = q := ⟨_, rfl⟩
  rw [hx] at hrv HFO
  obtain ⟨hre2, hrv2⟩ := resE_ok hrv (may_of (r := f.rows) (c := f.cols) (by omega))
  have hyl := resF_len hrv (may_of (r := f.rows) (c := f.cols) (by omega))
  obtain ⟨y, hy⟩ : ∃ q, resF x f.rows f.cols = q := ⟨_, rfl⟩
  rw [hy] at HFO hyl
  have HYL := hide (show y.cs.length = f.cs.length by have := valid_len HV.out; omega)
  have HRE := hide hre
  have HRE2 := hide hre2
  have HXE := hide hx
  have HYE := hide hy
  have HVX := hide hrv
  clear hre hre2 hx hy hrv hrv2 hyl hmay
  refine (resize_frame f _ M N _ HF6.out.2 HT6.out.1 HT6.out.2).mono ?_
  rintro e w6 ⟨v6, rfl, hown, hb6⟩
  rw [HRE.out]
  rw [HXE.out] at hown
  obtain ⟨xA, xn, xc, rfl, -, -, -⟩ := hown.at.form
  have HXb := hide hown.at.box
  have hba := below_next hb6 (fr_alloc w6 x xA xn xc)
  have HF7 := hide (HF6.out.below hba)
  have HA7 := hide (below_next HA6.out hba)
  have HT7 := hide (tabs_below HT6.out hba)
  clear hb6 hba hown HF6 HA6 HT6 HRE HXE
  obtain ⟨f0, f1, f2, f3, f4⟩ := HF7.out.reads
  have hfl := HF7.out.lt
  go_wp2_with fail
  refine (resize_frame x _ f.rows f.cols _ HXb.out.2 HT7.out.1 HT7.out.2).mono ?_
  rintro e w7 ⟨v7, rfl, hown, hb7⟩
  rw [HRE2.out]
  rw [HYE.out] at hown
  obtain ⟨yA, yn, yc, rfl, hyn, -, -⟩ := hown.at.form
  have HYb := hide hown.at.box
  have hba := below_next hb7 (fr_alloc w7 y yA yn yc)
  have HF8 := hide (HF7.out.below hba)
  have HA8 := hide (below_next HA7.out hba)
  have HT8 := hide (tabs_below HT7.out hba)
  have hfn := HF8.out.cls.2.1
  have hyf : yn = fn := by rw [hyn, hfn]; exact HYL.out
  have hf9 : fn ≤ 20000 := by rw [hfn]; exact (valid_bd HV.out).2.2.2.2.2
  have HFN := hide hfn
  subst hyf
  have hcap1 : fc ≤ 9223372036854775807 := by have := HF8.out.cls.2.2; unfold maxLen at this; omega
  have hcap2 : yc ≤ 9223372036854775807 := by have := HYb.out.cls.2.2; unfold maxLen at this; omega
  clear hb7 hba hown HF7 HA7 HT7 HRE2 HYE f0 f1 f2 f3 f4 hfl hyn hfn HXb
  obtain ⟨f0, f1, f2, f3, f4⟩ := HF8.out.reads
  have hfl := HF8.out.lt
  go_wp2_with fail
  obtain ⟨Hb, hHb⟩ : ∃ D, w7.heap.size = D := ⟨_, rfl⟩
  rw [hHb] at HYb ⊢
  obtain ⟨X, hX⟩ : ∃ X, w7.alloc (.cells #[.int .i64 y.rows, .int .i64 y.cols, .slice yA yn yc, .int .i64 y.row, .int .i64 y.col] 28) = X := ⟨_, rfl⟩
  rw [hX] at HYb HF8 HA8 HT8 ⊢
  clear hX hHb f0 f1 f2 f3 f4 hfl
  obtain ⟨C, hC⟩ : ∃ C : Nat, f.cols = C := ⟨f.cols.toNat, by omega⟩
  have HC := hide hC
  have hC8 : 8 ≤ C := by omega
  have hC9 : C ≤ 20 := by omega
  clear hC
  go_loopw [16] (fun iv wr => ∃ i : Nat, iv = .int .i64 i ∧ i ≤ yn ∧ Hid (Below X.heap.size X wr)) (fun iv _ => yn - (intOf iv).toNat)
  case atStart => exact ⟨0, rfl, by omega, hide (Below.refl _ _)⟩
  case round =>
    obtain ⟨i, rfl, hi, HB⟩ := hrel
    have HFr := hide (HF8.out.below HB.out)
    have HYr := hide (HYb.out.below HB.out)
    obtain ⟨f0, f1, f2, f3, f4⟩ := HFr.out.reads
    obtain ⟨y0, y1, y2, y3, y4⟩ := HYr.out.reads
    rw [HC.out] at f1
    by_cases hlt : i < yn
    case neg =>
      obtain rfl : i = yn := by omega
      have HTr := hide (tabs_below HT8.out HB.out)
      go_wp2_with fail
      refine (shown_any _ HTr.out.1 HTr.out.2).mono ?_
      rintro e w9 ⟨rfl, hb9⟩
      have HA9 := hide (below_next (below_next HA8.out HB.out) hb9)
      clear hb9
      go_wp2_with fail
      go_ret
      exact ⟨rfl, HA9.out⟩
    obtain ⟨q, hq⟩ : ∃ q, i / C = q := ⟨_, rfl⟩
    obtain ⟨r, hr⟩ : ∃ q, i % C = q := ⟨_, rfl⟩
    have hq1 : Int.tdiv (i : Int) (C : Int) = (q : Int) := by rw [← hq]; rfl
    have hr1 : Int.tmod (i : Int) (C : Int) = (r : Int) := by rw [← hr]; rfl
    have hq2 : (i : Int) / (C : Int) = (q : Int) := by rw [← hq]; rfl
    have hr2 : (i : Int) % (C : Int) = (r : Int) := by rw [← hr]; rfl
    have hwn : IntKind.i64.wrap ((N : Int) - 1) = (N : Int) - 1 := by simp [IntKind.wrap_i64]; omega
    have hC0 : ¬ (C : Int) = 0 := by omega
    have hC1 : ¬ C = 0 := by omega
    have hqC : q ≤ i := by rw [← hq]; exact Nat.div_le_self _ _
    have hrC : r < C := by rw [← hr]; exact Nat.mod_lt _ (by omega)
    have HQ := hide hq
    have HR := hide hr
    clear hq hr
    by_cases hqM : q < M
    case neg =>
      have t1 : decide (q < M) = false := by simpa using hqM
      go_wp2_with fail
      go_quiet (fail)
      go_wp2_with fail
      go_roundw
      case rel => exact ⟨i + 1, by go_num, by omega, hide (below_drewG HB.out _)⟩
      case measure => simp [intOf]; omega
    have t1 : decide (q < M) = true := by simpa using hqM
    by_cases hrN : (r : Int) < (N : Int) - 1
    case neg =>
      have t2 : decide ((r : Int) < (N : Int) - 1) = false := by simpa using hrN
      go_wp2_with fail
      go_quiet (fail)
      go_wp2_with fail
      go_roundw
      case rel => exact ⟨i + 1, by go_num, by omega, hide (below_drewG HB.out _)⟩
      case measure => simp [intOf]; omega
    have t2 : decide ((r : Int) < (N : Int) - 1) = true := by simpa using hrN
    have hil : i < f.cs.length := by rw [← HFN.out]; exact hlt
    obtain ⟨c0, hc0⟩ : ∃ c, f.cs[i]? = some c := ⟨_, List.getElem?_eq_getElem hil⟩
    have hfo := HFO.out i hil (by rw [HC.out, Int.toNat_natCast, HQ.out]; exact hqM) (by rw [HC.out, Int.toNat_natCast, HR.out]; omega)
    rw [hc0] at hfo
    obtain ⟨bb, oo, hfA, hbl, d0, d1, d2, d3, d4, d5⟩ := HFr.out.cls.1.at hc0
    obtain ⟨bb', oo', hyA, hbl', e0, e1, e2, e3, e4, e5⟩ := HYr.out.cls.1.at hfo
    subst hfA hyA
    obtain ⟨cr, cw, cfg, cbo, cun, civ⟩ := c0
    dsimp only at d0 d1 d2 d3 d4 d5 e0 e1 e2 e3 e4 e5
    have hsc : sameC ⟨cr, cw, cfg, cbo, cun, civ⟩ ⟨cr, cw, cfg, cbo, cun, civ⟩ = true := decide_eq_true rfl
    clear hc0 hfo hil
    go_wp2_with fail
    go_quiet (fail)
    go_wp2_with fail
    go_roundw
    case rel => exact ⟨i + 1, by go_num, by omega, hide (below_drewG HB.out _)⟩
    case measure => simp [intOf]; omega
end Go.Proofs.YtojjdckpbmjjdaaDoor
