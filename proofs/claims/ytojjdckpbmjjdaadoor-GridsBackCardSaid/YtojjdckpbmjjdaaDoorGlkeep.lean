/- Walk of the law GridsKeep. -/
import Derived.Test.YtojjdckpbmjjdaaDoorGlraw
namespace Go.Proofs.YtojjdckpbmjjdaaDoor
open Go.RowKit

@[go_sem high] theorem eqCellV (r wd fg : Int) (bo un iv : Bool) (r' wd' fg' : Int) (bo' un' iv' : Bool) (w : World) :
    (binOp .eql 52 (.agg #[.int .i32 r, .int .i64 wd, .int .i64 fg, .bool bo, .bool un, .bool iv]) (.agg #[.int .i32 r', .int .i64 wd', .int .i64 fg', .bool bo', .bool un', .bool iv'])).run Tryd.prog w = .ok (.bool (sameC ⟨r, wd, fg, bo, un, iv⟩ ⟨r', wd', fg', bo', un', iv'⟩)) w := by
  have h := eqCell ⟨r, wd, fg, bo, un, iv⟩ ⟨r', wd', fg', bo', un', iv'⟩ w
  unfold clV at h
  rw [run_eql_struct, h]
  rfl
theorem resE_ok {f : Fr} {r c : Int} (h : validF f = true) (hm : mayB r c = true) : resE f r c = 0 ∧ validF (resF f r c) = true := by
  have hok : resOk f r c = true := by unfold resOk; rw [h, hm]; rfl
  exact ⟨by unfold resE; rw [if_pos hok], resF_valid hok⟩
theorem may_of {r c : Int} (h : 2 ≤ r ∧ r ≤ 100 ∧ 8 ≤ c ∧ c ≤ 200) : mayB r c = true := by
  unfold mayB
  rw [decide_eq_true_eq]
  omega
/-- Seven tests, one behind the other. -/
theorem keep_ways {f : Fr} {row col r fg : Int} {bo un iv : Bool} {cn : Int} (hc : cells r = cn) :
    (okP f row col ⟨r, 0, fg, bo, un, iv⟩ = false ∧ (cn = 0 ∨ (¬ cn = 0 ∧ row < 0) ∨ (¬ cn = 0 ∧ ¬ row < 0 ∧ f.rows ≤ row) ∨ (¬ cn = 0 ∧ ¬ row < 0 ∧ ¬ f.rows ≤ row ∧ col < 0) ∨ (¬ cn = 0 ∧ ¬ row < 0 ∧ ¬ f.rows ≤ row ∧ ¬ col < 0 ∧ f.cols - cn < col) ∨ (¬ cn = 0 ∧ ¬ row < 0 ∧ ¬ f.rows ≤ row ∧ ¬ col < 0 ∧ ¬ f.cols - cn < col ∧ fg < 0) ∨ (¬ cn = 0 ∧ ¬ row < 0 ∧ ¬ f.rows ≤ row ∧ ¬ col < 0 ∧ ¬ f.cols - cn < col ∧ ¬ fg < 0 ∧ 8 < fg))) ∨
    (okP f row col ⟨r, 0, fg, bo, un, iv⟩ = true ∧ ¬ cn = 0 ∧ ¬ row < 0 ∧ ¬ f.rows ≤ row ∧ ¬ col < 0 ∧ ¬ f.cols - cn < col ∧ ¬ fg < 0 ∧ ¬ 8 < fg) := by
  have e : okP f row col ⟨r, 0, fg, bo, un, iv⟩ = decide (¬ cn = 0 ∧ ¬ row < 0 ∧ ¬ f.rows ≤ row ∧ ¬ col < 0 ∧ ¬ f.cols - cn < col ∧ ¬ fg < 0 ∧ ¬ 8 < fg) := by
    unfold okP styC
    rw [hc, Bool.eq_iff_iff]
    simp
    omega
  rw [e]
  by_cases h : ¬ cn = 0 ∧ ¬ row < 0 ∧ ¬ f.rows ≤ row ∧ ¬ col < 0 ∧ ¬ f.cols - cn < col ∧ ¬ fg < 0 ∧ ¬ 8 < fg
  · exact .inr ⟨decide_eq_true h, h⟩
  · refine .inl ⟨decide_eq_false h, ?_⟩
    omega
theorem spot_facts {f : Fr} {row col : Int} (h : validF f = true) (h1 : ¬ row < 0) (h2 : ¬ f.rows ≤ row) (h3 : ¬ col < 0) (h4 : col < f.cols) : ∃ s : Nat, row * f.cols + col = (s : Int) ∧ s < f.cs.length ∧ IntKind.i64.wrap (row * f.cols) = (s : Int) - col := by
  obtain ⟨R, C, hR, hC, a1, a2, a3, a4, hL, -⟩ := valid_facts h
  obtain ⟨k, rfl⟩ : ∃ k : Nat, row = k := ⟨row.toNat, by omega⟩
  obtain ⟨i, rfl⟩ : ∃ i : Nat, col = i := ⟨col.toNat, by omega⟩
  rw [hC]
  rw [hC] at h4
  have hsp := spot_in (R := R) (C := C) (k := k) (j := i) (by omega) (by omega)
  have hz := size_small a1 a2 a3 a4
  refine ⟨k * C + i, by push_cast; rfl, by rw [hL]; exact hsp, ?_⟩
  have e : (k : Int) * (C : Int) = ((k * C + i : Nat) : Int) - (i : Int) := by push_cast; omega
  rw [e]
  simp [IntKind.wrap_i64]
  omega
theorem BoxF.cls {W : World} {b : Nat} {f : Fr} {A : Option Addr} {n c : Nat} (h : BoxF W b f A n c) : ClsAt W A f.cs ∧ n = f.cs.length ∧ c ≤ maxLen := by
  obtain ⟨-, A', c', e, h1, h2, h3⟩ := h
  unfold frV at e
  injection e with e
  simp at e
  obtain ⟨rfl, rfl, rfl⟩ := e
  exact ⟨h3, rfl, h2⟩
theorem putF_len {f : Fr} (h : validF f = true) (row col : Int) (x : Cl) : (putF f row col x).cs.length = f.cs.length := by
  unfold putF
  rw [if_pos h]
  split
  · exact put_len _ _ _ _
  · rfl
theorem put_not_ok {f : Fr} {row col : Int} {x : Cl} (h : validF f = true) (hn : okP f row col x = false) : putF f row col x = f := putF_not h hn
set_option maxRecDepth 100000 in
set_option maxHeartbeats 4000000 in
theorem keep_great (p : Pt) (x : Ik) (s0 s1 : Int) (v : Value) (w : World) (h : PtAt w v p) (hT : WTabs w) (hB : BTab w) (h0 : 0 ≤ s0 ∧ s0 ≤ 255 ∧ 0 ≤ s1 ∧ s1 ≤ 255) (hg : decide (60 < p.ink.length) = true) :
    Calls Tryd.prog 6 #[v, ikV x, .agg #[.int .u8 s0, .int .u8 s1]] w fun e w' => e = .returned (.bool true) ∧ Below w.heap.size w w' := by
  have HG := hide hg
  have HP := hide h
  have HT := hide (And.intro hT hB)
  obtain ⟨A, n, cap, rfl, -, -, -⟩ := pt_form h
  clear h hT hB hg
  obtain ⟨x0, x1, r, fg, bo, un, iv⟩ := x
  unfold ikV
  dsimp only
  have HA := hide (((((Below.refl w.heap.size w).alloc (Nat.le_refl _) (.cells #[.int .i64 p.rows, .int .i64 p.cols, .slice A n cap, .int .i64 p.row, .int .i64 p.col] 24)).alloc (by simp) (.cells #[.int .i64 x0, .int .i64 x1, .int .i32 r, .int .i64 fg, .bool bo, .bool un, .bool iv] 37))).alloc (by simp; omega) (.cells #[.int .u8 s0, .int .u8 s1] 49))
  go_enter Tryd.func6, Tryd.ntmps6
  go_wp2_with fail
  refine (great_is p true HG.out _ _ (HP.out.below HA.out)).mono ?_
  rintro e w1 ⟨rfl, hb1⟩
  have HA1 := hide (below_next HA.out hb1)
  clear hb1
  go_wp2_with fail
  refine (shown_any _ (tabs_below HT.out HA1.out).1 (tabs_below HT.out HA1.out).2).mono ?_
  rintro e w2 ⟨rfl, hb2⟩
  have HA2 := hide (below_next HA1.out hb2)
  clear hb2
  go_wp2_with fail
  go_ret
  exact ⟨rfl, HA2.out⟩
set_option maxRecDepth 100000 in
set_option maxHeartbeats 4000000 in
theorem law_keep (p : Pt) (x : Ik) (s0 s1 : Int) (v : Value) (w : World) (h : PtAt w v p) (hT : WTabs w) (hB : BTab w) (h0 : 0 ≤ s0 ∧ s0 ≤ 255 ∧ 0 ≤ s1 ∧ s1 ≤ 255)  :
    Calls Tryd.prog 6 #[v, ikV x, .agg #[.int .u8 s0, .int .u8 s1]] w fun e w' => e = .returned (.bool true) ∧ Below w.heap.size w w' := by
  by_cases hg : decide (60 < p.ink.length) = true
  · exact keep_great p x s0 s1 v w h hT hB h0 hg
  have HG := hide (show decide (60 < p.ink.length) = false by simpa using hg)
  have hl := hide (show p.ink.length ≤ 60 by simpa using hg)
  have HP := hide h
  have HT := hide (And.intro hT hB)
  obtain ⟨A, n, cap, rfl, -, -, -⟩ := pt_form h
  clear h hT hB hg
  obtain ⟨q1, q2, q3, q4⟩ := h0
  obtain ⟨x0, x1, r, fg, bo, un, iv⟩ := x
  unfold ikV
  dsimp only
  have HA := hide (((((Below.refl w.heap.size w).alloc (Nat.le_refl _) (.cells #[.int .i64 p.rows, .int .i64 p.cols, .slice A n cap, .int .i64 p.row, .int .i64 p.col] 24)).alloc (by simp) (.cells #[.int .i64 x0, .int .i64 x1, .int .i32 r, .int .i64 fg, .bool bo, .bool un, .bool iv] 37))).alloc (by simp; omega) (.cells #[.int .u8 s0, .int .u8 s1] 49))
  have HK := hide (show Blk (((w.alloc (.cells #[.int .i64 p.rows, .int .i64 p.cols, .slice A n cap, .int .i64 p.row, .int .i64 p.col] 24)).alloc (.cells #[.int .i64 x0, .int .i64 x1, .int .i32 r, .int .i64 fg, .bool bo, .bool un, .bool iv] 37)).alloc (.cells #[.int .u8 s0, .int .u8 s1] 49)) w.heap.size 24 (ptCells p A n cap) from ((Blk.new w _ _).alloc _).alloc _)
  have HI := hide (show ikBox (((w.alloc (.cells #[.int .i64 p.rows, .int .i64 p.cols, .slice A n cap, .int .i64 p.row, .int .i64 p.col] 24)).alloc (.cells #[.int .i64 x0, .int .i64 x1, .int .i32 r, .int .i64 fg, .bool bo, .bool un, .bool iv] 37)).alloc (.cells #[.int .u8 s0, .int .u8 s1] 49)) (w.heap.size + 1) ⟨x0, x1, r, fg, bo, un, iv⟩ from (Blk.newAt (W := w.alloc (.cells #[.int .i64 p.rows, .int .i64 p.cols, .slice A n cap, .int .i64 p.row, .int .i64 p.col] 24)) (cs := ikCells ⟨x0, x1, r, fg, bo, un, iv⟩) (World.size_alloc _ _)).alloc _)
  have HZ := hide (show Blk (((w.alloc (.cells #[.int .i64 p.rows, .int .i64 p.cols, .slice A n cap, .int .i64 p.row, .int .i64 p.col] 24)).alloc (.cells #[.int .i64 x0, .int .i64 x1, .int .i32 r, .int .i64 fg, .bool bo, .bool un, .bool iv] 37)).alloc (.cells #[.int .u8 s0, .int .u8 s1] 49)) (w.heap.size + 1 + 1) 49 [.int .u8 s0, .int .u8 s1] from Blk.newAt (W := (w.alloc (.cells #[.int .i64 p.rows, .int .i64 p.cols, .slice A n cap, .int .i64 p.row, .int .i64 p.col] 24)).alloc (.cells #[.int .i64 x0, .int .i64 x1, .int .i32 r, .int .i64 fg, .bool bo, .bool un, .bool iv] 37)) (cs := [.int .u8 s0, .int .u8 s1]) (by simp only [World.size_alloc]))
  go_enter Tryd.func6, Tryd.ntmps6
  go_wp2_with fail
  refine (great_is p false HG.out _ _ (HP.out.below HA.out)).mono ?_
  rintro e w1 ⟨rfl, hb1⟩
  have HA1 := hide (below_next HA.out hb1)
  have HI1 := hide (HI.out.below hb1)
  have HZ1 := hide (HZ.out.below hb1)
  obtain ⟨k0, k1, k2, k3, k4⟩ := pt_reads (HK.out.below hb1)
  clear hb1 HA HI HZ
  go_wp2_with fail
  refine (frame_any p _ _ (HP.out.below HA1.out) hl.out).mono ?_
  rintro e w2 ⟨v2, rfl, hown, hb2⟩
  obtain ⟨f, hf⟩ : ∃ f, paintF p = f := ⟨_, rfl⟩
  have HV := hide (show validF f = true by rw [← hf]; exact paintF_valid p)
  rw [hf] at hown
  obtain ⟨fA, fn, fc, rfl, -, -, -⟩ := hown.at.form
  have HF := hide hown.at.box
  have hba := below_next hb2 (fr_alloc w2 f fA fn fc)
  have HA2 := hide (below_next HA1.out hba)
  have HI2 := hide (HI1.out.below hba)
  have HZ2 := hide (HZ1.out.below hba)
  have HT2 := hide (tabs_below HT.out HA2.out)
  clear hb2 hf hown k0 k1 k2 k3 k4 HK HA1 HI1 HZ1 hba
  obtain ⟨i0, i1, i2, i3, i4, i5, i6⟩ := HI2.out.reads
  dsimp only at i0 i1 i2 i3 i4 i5 i6
  have hil := HI2.out.lt
  go_wp2_with fail
  obtain ⟨D, hD⟩ : ∃ D, w2.heap.size = D := ⟨_, rfl⟩
  rw [hD] at HF ⊢
  refine (put_frame f _ x0 x1 ⟨r, 0, fg, bo, un, iv⟩ _ HF.out.2 HT2.out.1 HT2.out.2).mono ?_
  rintro e w3 ⟨v3, rfl, hown, hb3⟩
  obtain ⟨g, hg⟩ : ∃ g, putF f x0 x1 ⟨r, 0, fg, bo, un, iv⟩ = g := ⟨_, rfl⟩
  have HVg := hide (show validF g = true by rw [← hg]; exact putF_valid HV.out _ _ _)
  have HRC := hide (show g.rows = f.rows ∧ g.cols = f.cols ∧ g.row = f.row ∧ g.col = f.col by rw [← hg]; exact putF_size HV.out _ _ _)
  rw [hg] at hown
  have HGP := hide hg
  obtain ⟨gA, gn, gc, rfl, hgn, -, hgc⟩ := hown.at.form
  have HGL := hide hgn
  have HBg := hide hown.at.box
  have hba := below_next hb3 (fr_alloc w3 g gA gn gc)
  have HF3 := hide (HF.out.below hba)
  have HA3 := hide (below_next HA2.out hba)
  have HI3 := hide (HI2.out.below hba)
  have HZ3 := hide (HZ2.out.below hba)
  have HT3 := hide (tabs_below HT2.out hba)
  clear hb3 hba hg hown hD HF HA2 HI2 HZ2 HT2 i0 i1 i2 i3 i4 i5 i6 hil hgn
  have z0 := HZ3.out.cell (i := 0) rfl
  have z1 := HZ3.out.cell (i := 1) rfl
  have zl := HZ3.out.lt
  obtain ⟨f0, f1, f2, f3, f4⟩ := HF3.out.reads
  have hfl := HF3.out.lt
  go_wp2_with fail
  obtain ⟨E, hE⟩ : ∃ E, w3.heap.size = E := ⟨_, rfl⟩
  rw [hE] at HBg ⊢
  obtain ⟨m0, hm0⟩ : ∃ m, 2 + s0 % 99 = m := ⟨_, rfl⟩
  obtain ⟨m1, hm1⟩ : ∃ m, 8 + s1 % 193 = m := ⟨_, rfl⟩
  have hm2 : 2 ≤ m0 ∧ m0 ≤ 100 ∧ 8 ≤ m1 ∧ m1 ≤ 200 := by omega
  rw [hm0, hm1]
  obtain ⟨hre, hrv⟩ := resE_ok HV.out (may_of hm2)
  have HRE := hide hre
  have HRV := hide hrv
  clear hre hrv
  refine (resize_frame f _ m0 m1 _ HF3.out.2 HT3.out.1 HT3.out.2).mono ?_
  rintro e w4 ⟨v4, rfl, hown, hb4⟩
  rw [HRE.out]
  obtain ⟨q, hq⟩ : ∃ q, resF f m0 m1 = q := ⟨_, rfl⟩
  rw [hq] at hown HRV
  obtain ⟨qA, qn, qc, rfl, -, -, -⟩ := hown.at.form
  have HBq := hide hown.at.box
  have hba := below_next hb4 (fr_alloc w4 q qA qn qc)
  have HF4 := hide (HF3.out.below hba)
  have HG4 := hide (HBg.out.below hba)
  have HA4 := hide (below_next HA3.out hba)
  have HI4 := hide (HI3.out.below hba)
  have HT4 := hide (tabs_below HT3.out hba)
  clear hb4 hba hq hown hE HF3 HBg HA3 HI3 HZ3 HT3 z0 z1 zl hfl f0 f1 f2 f3 f4 HRE hm0 hm1 hm2
  obtain ⟨f0, f1, f2, f3, f4⟩ := HF4.out.reads
  have hfl := HF4.out.lt
  go_wp2_with fail
  obtain ⟨H, hH⟩ : ∃ E, w4.heap.size = E := ⟨_, rfl⟩
  rw [hH] at HBq ⊢
  obtain ⟨X, hX⟩ : ∃ X, w4.alloc (.cells #[.int .i64 q.rows, .int .i64 q.cols, .slice qA qn qc, .int .i64 q.row, .int .i64 q.col] 28) = X := ⟨_, rfl⟩
  rw [hX] at HBq HF4 HG4 HA4 HI4 HT4 ⊢
  clear hX hH hfl f0 f1 f2 f3 f4
  refine (valid_is f true HV.out _ _ HF4.out.2 HT4.out.1).mono ?_
  rintro e w5 ⟨rfl, hb5⟩
  have HF5 := hide (HF4.out.below hb5)
  have HG5 := hide (HG4.out.below hb5)
  have HQ5 := hide (HBq.out.below hb5)
  have HA5 := hide (below_next HA4.out hb5)
  have HI5 := hide (HI4.out.below hb5)
  have HT5 := hide (tabs_below HT4.out hb5)
  clear hb5 HF4 HG4 HBq HA4 HI4 HT4
  obtain ⟨g0, g1, g2, g3, g4⟩ := HG5.out.reads
  go_wp2_with fail
  refine (valid_is g true HVg.out _ _ HG5.out.2 HT5.out.1).mono ?_
  rintro e w6 ⟨rfl, hb6⟩
  have HF6 := hide (HF5.out.below hb6)
  have HG6 := hide (HG5.out.below hb6)
  have HQ6 := hide (HQ5.out.below hb6)
  have HA6 := hide (below_next HA5.out hb6)
  have HI6 := hide (HI5.out.below hb6)
  have HT6 := hide (tabs_below HT5.out hb6)
  clear hb6 HF5 HG5 HQ5 HA5 HI5 HT5 g0 g1 g2 g3 g4
  obtain ⟨g0, g1, g2, g3, g4⟩ := HQ6.out.reads
  go_wp2_with fail
  refine (valid_is q true HRV.out _ _ HQ6.out.2 HT6.out.1).mono ?_
  rintro e w7 ⟨rfl, hb7⟩
  have HF7 := hide (HF6.out.below hb7)
  have HG7 := hide (HG6.out.below hb7)
  have HA7 := hide (below_next HA6.out hb7)
  have HI7 := hide (HI6.out.below hb7)
  have HT7 := hide (tabs_below HT6.out hb7)
  clear hb7 HF6 HG6 HQ6 HA6 HI6 HT6 g0 g1 g2 g3 g4
  obtain ⟨f0, f1, f2, f3, f4⟩ := HF7.out.reads
  obtain ⟨g0, g1, g2, g3, g4⟩ := HG7.out.reads
  rw [HRC.out.2.2.1] at g3
  rw [HRC.out.2.2.2] at g4
  obtain ⟨i0, i1, i2, i3, i4, i5, i6⟩ := HI7.out.reads
  dsimp only at i0 i1 i2 i3 i4 i5 i6
  go_wp2_with fail
  obtain ⟨cn, hcn⟩ : ∃ y, cells r = y := ⟨_, rfl⟩
  have HCN := hide hcn
  clear hcn
  refine (wof_is r cn HCN.out _ HT7.out.1).mono ?_
  rintro e w8 ⟨rfl, hb8⟩
  have HF8 := hide (HF7.out.below hb8)
  have HG8 := hide (HG7.out.below hb8)
  have HA8 := hide (below_next HA7.out hb8)
  have HI8 := hide (HI7.out.below hb8)
  have HT8 := hide (tabs_below HT7.out hb8)
  clear hb8 HF7 HG7 HA7 HI7 HT7 g0 g1 g2 g3 g4 f0 f1 f2 f3 f4 i0 i1 i2 i3 i4 i5 i6
  obtain ⟨f0, f1, f2, f3, f4⟩ := HF8.out.reads
  obtain ⟨g0, g1, g2, g3, g4⟩ := HG8.out.reads
  obtain ⟨i0, i1, i2, i3, i4, i5, i6⟩ := HI8.out.reads
  dsimp only at i0 i1 i2 i3 i4 i5 i6
  have hcb := cells_bd r
  rw [HCN.out] at hcb
  obtain ⟨cb1, cb2⟩ := hcb
  obtain ⟨b1, b2, b3, b4, b5, b6⟩ := valid_bd HV.out
  rcases keep_ways (f := f) (row := x0) (col := x1) (fg := fg) (bo := bo) (un := un) (iv := iv) HCN.out with ⟨hno, hw⟩ | ⟨hyes, d1, d2, d3, d4, d5, d6, d7⟩
  · have HE := hide (show f = g by rw [← HGP.out]; exact (put_not_ok HV.out hno).symm)
    clear hno HGP HRC
    rcases hw with rfl | ⟨d1, d2⟩ | ⟨d1, d2, d3⟩ | ⟨d1, d2, d3, d4⟩ | ⟨d1, d2, d3, d4, d5⟩ | ⟨d1, d2, d3, d4, d5, d6⟩ | ⟨d1, d2, d3, d4, d5, d6, d7⟩
    all_goals
      go_wp2_with fail
      refine (same_is f g true (decide_eq_true HE.out) _ _ _ HF8.out.2 HG8.out.2).mono ?_
      rintro e w9 ⟨rfl, hb9⟩
      have HA9 := hide (below_next HA8.out hb9)
      have HT9 := hide (tabs_below HT8.out hb9)
      clear hb9 g0 g1 g2 g3 g4 f0 f1 f2 f3 f4 i0 i1 i2 i3 i4 i5 i6
      go_wp2_with fail
      refine (shown_any _ HT9.out.1 HT9.out.2).mono ?_
      rintro e w10 ⟨rfl, hb10⟩
      have HA10 := hide (below_next HA9.out hb10)
      clear hb10
      go_wp2_with fail
      go_ret
      exact ⟨rfl, HA10.out⟩
  · obtain ⟨s, hs1, hs2, hwr⟩ := spot_facts (f := f) (row := x0) (col := x1) HV.out d2 d3 d4 (by omega)
    have hsp := put_spot HV.out hyes
    have hpd := put_diff HV.out hyes
    have hgl := putF_len HV.out x0 x1 ⟨r, 0, fg, bo, un, iv⟩
    rw [HGP.out] at hsp hpd hgl
    unfold inkC at hsp
    dsimp only at hsp hpd
    rw [hs1, Int.toNat_natCast, HCN.out] at hsp
    rw [HCN.out] at hpd
    have hsn : s < gn := by rw [HG8.out.cls.2.1, hgl]; exact hs2
    have hgc2 : gc ≤ 9223372036854775807 := by have := HG8.out.cls.2.2; unfold maxLen at this; omega
    have hgn9 : gn ≤ 20000 := by rw [HG8.out.cls.2.1, hgl]; exact b6
    obtain ⟨d, hd⟩ : ∃ d, diffF f g = d := ⟨_, rfl⟩
    rw [hd] at hpd
    have HD := hide hd
    have hsc : sameC ⟨r, cn, fg, bo, un, iv⟩ ⟨r, cn, fg, bo, un, iv⟩ = true := decide_eq_true rfl
    obtain ⟨bb, oo, rfl, hbl, c0, c1, c2, c3, c4, c5⟩ := HG8.out.cls.1.at hsp
    dsimp only at c0 c1 c2 c3 c4 c5
    have hfl := HF8.out.lt
    have hglt := HG8.out.lt
    have hil := HI8.out.lt
    have hS1 := hide hs1
    have hj1 : (s : Int) - x1 + x1 = (s : Int) := by omega
    have hcn0 : (cn == 0) = false := by simpa using d1
    clear hd hsp hyes hgl hs1 hs2 HGP
    go_wp2_with fail
    have HAl := hide ((Below.refl w8.heap.size w8).alloc (Nat.le_refl _) (.cells #[.int .i32 r, .int .i64 cn, .int .i64 fg, .bool bo, .bool un, .bool iv] 52))
    refine (diff_is f g d HD.out _ _ _ (HF8.out.2.below HAl.out) (HG8.out.2.below HAl.out) (HT8.out.1.below HAl.out)).mono ?_
    rintro e w9 ⟨rfl, hb9⟩
    have HA9 := hide (below_next (below_next HA8.out HAl.out) hb9)
    have HT9 := hide (tabs_below (tabs_below HT8.out HAl.out) hb9)
    clear hb9
    go_wp2_with fail
    refine (shown_any _ HT9.out.1 HT9.out.2).mono ?_
    rintro e w10 ⟨rfl, hb10⟩
    have HA10 := hide (below_next HA9.out hb10)
    clear hb10
    go_wp2_with fail
    go_ret
    exact ⟨rfl, HA10.out⟩
end Go.Proofs.YtojjdckpbmjjdaaDoor
