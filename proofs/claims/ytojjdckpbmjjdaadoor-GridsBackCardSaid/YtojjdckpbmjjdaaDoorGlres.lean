/- Walk of the law GridsResize. -/
import Derived.Test.YtojjdckpbmjjdaaDoorGbox
namespace Go.Proofs.YtojjdckpbmjjdaaDoor
open Go.RowKit

theorem valid_bd {f : Fr} (h : validF f = true) : 2 ≤ f.rows ∧ f.rows ≤ 100 ∧ 8 ≤ f.cols ∧ f.cols ≤ 200 ∧ 0 < f.cs.length ∧ f.cs.length ≤ 20000 := by
  obtain ⟨R, C, hR, hC, h1, h2, h3, h4, hL, -⟩ := valid_facts h
  have := size_small h1 h2 h3 h4
  omega
theorem RowOf.under7 {W W' : World} {A : Option Addr} {L : List Ik} (h : RowOf W 7 ikCells A L) (hb : Below W.heap.size W W') : RowOf W' 7 ikCells A L := h.below hb
set_option maxRecDepth 100000 in
set_option maxHeartbeats 4000000 in
theorem great_shown_res (p : Pt) (v : Value) (r c : Int) (w : World) (h : PtAt w v p) (hT : WTabs w) (hB : BTab w) (hg : decide (60 < p.ink.length) = true) :
    Calls Tryd.prog 5 #[v, .int .i64 r, .int .i64 c] w fun e w' => e = .returned (.bool true) ∧ Below w.heap.size w w' := by
  have HG := hide hg
  have HP := hide h
  have HT := hide (And.intro hT hB)
  obtain ⟨A, n, cap, rfl, -, -, -⟩ := pt_form h
  clear h hT hB hg
  have HA := hide ((Below.refl w.heap.size w).alloc (Nat.le_refl _) (.cells #[.int .i64 p.rows, .int .i64 p.cols, .slice A n cap, .int .i64 p.row, .int .i64 p.col] 24))
  go_enter Tryd.func5, Tryd.ntmps5
  go_wp2_with fail
  refine (great_is p true HG.out _ _ (HP.out.below HA.out)).mono ?_
  rintro e w1 ⟨rfl, hb1⟩
  have HA1 := hide (below_next HA.out hb1)
  clear hb1
  go_wp2_with fail
  have hT1 := HT.out
  refine (shown_any _ (tabs_below HT.out HA1.out).1 (tabs_below HT.out HA1.out).2).mono ?_
  clear hT1
  rintro e w2 ⟨rfl, hb2⟩
  have HA2 := hide (below_next HA1.out hb2)
  clear hb2
  go_wp2_with fail
  go_ret
  exact ⟨rfl, HA2.out⟩
set_option maxRecDepth 100000 in
set_option maxHeartbeats 4000000 in
theorem law_res (p : Pt) (v : Value) (r c : Int) (w : World) (h : PtAt w v p) (hT : WTabs w) (hB : BTab w) :
    Calls Tryd.prog 5 #[v, .int .i64 r, .int .i64 c] w fun e w' => e = .returned (.bool true) ∧ Below w.heap.size w w' := by
  by_cases hg : decide (60 < p.ink.length) = true
  · exact great_shown_res p v r c w h hT hB hg
  have HG := hide (show decide (60 < p.ink.length) = false by simpa using hg)
  have hl := hide (show p.ink.length ≤ 60 by simpa using hg)
  have HP := hide h
  have HT := hide (And.intro hT hB)
  obtain ⟨A, n, cap, rfl, -, -, -⟩ := pt_form h
  clear h hT hB hg
  have HA := hide ((Below.refl w.heap.size w).alloc (Nat.le_refl _) (.cells #[.int .i64 p.rows, .int .i64 p.cols, .slice A n cap, .int .i64 p.row, .int .i64 p.col] 24))
  have HK := hide (Blk.new w 24 (ptCells p A n cap))
  go_enter Tryd.func5, Tryd.ntmps5
  go_wp2_with fail
  refine (great_is p false HG.out _ _ (HP.out.below HA.out)).mono ?_
  rintro e w1 ⟨rfl, hb1⟩
  have HA1 := hide (below_next HA.out hb1)
  obtain ⟨k0, k1, k2, k3, k4⟩ := pt_reads (HK.out.below hb1)
  clear hb1 HA
  go_wp2_with fail
  refine (frame_any p _ _ (HP.out.below HA1.out) hl.out).mono ?_
  rintro e w2 ⟨v2, rfl, hown, hb2⟩
  have HA2 := hide (below_next HA1.out hb2)
  obtain ⟨f, hf⟩ : ∃ f, paintF p = f := ⟨_, rfl⟩
  have HV := hide (show validF f = true by rw [← hf]; exact paintF_valid p)
  rw [hf] at hown
  obtain ⟨fA, fn, fc, rfl, hfn, -, -⟩ := hown.at.form
  have HF := hide hown.at.box
  have HFN := hide hfn
  have HA3 := hide (below_next HA2.out ((Below.refl w2.heap.size w2).alloc (Nat.le_refl _) (.cells #[.int .i64 f.rows, .int .i64 f.cols, .slice fA fn fc, .int .i64 f.row, .int .i64 f.col] 28)))
  clear hb2 hf hown hfn k0 k1 k2 k3 k4 HK HA1 HA2
  go_wp2_with fail
  obtain ⟨D, hD⟩ : ∃ D, w2.heap.size = D := ⟨_, rfl⟩
  rw [hD] at HF ⊢
  clear hD
  have hsz : 0 < f.cs.length ∧ f.cs.length ≤ 20000 := by
    obtain ⟨R, C, hR, hC, h1, h2, h3, h4, hL, -⟩ := valid_facts HV.out
    have := size_small h1 h2 h3 h4
    omega
  have HSZ := hide hsz
  clear hsz
  refine (rcopy_any f _ _ HF.out.2 HSZ.out.1 HSZ.out.2).mono ?_
  rintro e w3 ⟨v3, rfl, hown, hb3⟩
  have HF3 := hide (HF.out.below hb3)
  have HA4 := hide (below_next HA3.out hb3)
  obtain ⟨oA, on, oc, rfl, -, -, -⟩ := hown.at.form
  have HO := hide hown.at.box
  have hba := (Below.refl w3.heap.size w3).alloc (Nat.le_refl _) (.cells #[.int .i64 f.rows, .int .i64 f.cols, .slice oA on oc, .int .i64 f.row, .int .i64 f.col] 28)
  have HA5 := hide (below_next HA4.out hba)
  have HF4 := hide (HF3.out.below hba)
  clear hb3 hba hown HF HF3 HA3 HA4
  go_wp2_with fail
  obtain ⟨E, hE⟩ : ∃ E, w3.heap.size = E := ⟨_, rfl⟩
  rw [hE] at HO ⊢
  clear hE
  obtain ⟨X, hX⟩ : ∃ X, w3.alloc (.cells #[.int .i64 f.rows, .int .i64 f.cols, .slice oA on oc, .int .i64 f.row, .int .i64 f.col] 28) = X := ⟨_, rfl⟩
  rw [hX] at HO HA5 HF4 ⊢
  clear hX
  go_loopw [9] (fun kv wr => ∃ k : Int, kv = .int .i64 k ∧ -1 ≤ k ∧ k ≤ 3 ∧ Hid (Below X.heap.size X wr)) (fun kv _ => (3 - intOf kv).toNat)
  case atStart => exact ⟨-1, rfl, by omega, by omega, hide (Below.refl _ _)⟩
  case round =>
    obtain ⟨k, rfl, hk1, hk2, HB⟩ := hrel
    by_cases hk3 : k ≤ 2
    case neg =>
      obtain rfl : k = 3 := by omega
      have hTT := hide (tabs_below (tabs_below HT.out HA5.out) HB.out)
      go_wp2_with fail
      refine (shown_any _ hTT.out.1 hTT.out.2).mono ?_
      rintro e w9 ⟨rfl, hb9⟩
      have HA9 := hide (below_next (below_next HA5.out HB.out) hb9)
      clear hb9
      go_wp2_with fail
      go_ret
      exact ⟨rfl, HA9.out⟩
    have HFr := hide (HF4.out.below HB.out)
    have HOr := hide (HO.out.below HB.out)
    have HTr := hide (tabs_below (tabs_below HT.out HA5.out) HB.out)
    obtain ⟨f0, f1, f2, f3, f4⟩ := HFr.out.reads
    obtain ⟨o0, o1, o2, o3, o4⟩ := HOr.out.reads
    obtain ⟨b1, b2, b3, b4, -, -⟩ := valid_bd HV.out
    by_cases hk4 : k < 2
    · go_wp2_with fail
      go_quiet (fail)
      go_wp2_with fail
      refine (resize_frame f _ (f.rows + k) (f.cols - k) _ (HFr.out.2.below (below_drewG (Below.refl _ _) _)) (tabs_below HTr.out (below_drewG (Below.refl _ _) _)).1 (tabs_below HTr.out (below_drewG (Below.refl _ _) _)).2).mono ?_
      rintro e w4 ⟨v4, rfl, hown, hb4⟩
      replace hb4 := below_next (below_drewG (Below.refl wr.heap.size wr) _) hb4
      obtain ⟨x, hx⟩ : ∃ x, resF f (f.rows + k) (f.cols - k) = x := ⟨_, rfl⟩
      obtain ⟨y, hy⟩ : ∃ y, resE f (f.rows + k) (f.cols - k) = y := ⟨_, rfl⟩
      rw [hx] at hown
      rw [hy]
      have HX1 := hide hx
      have HY1 := hide hy
      clear hx hy
      obtain ⟨aA, an, ac, rfl, -, -, -⟩ := hown.at.form
      have HA1 := hide hown.at.box
      have hba := below_next hb4 ((Below.refl w4.heap.size w4).alloc (Nat.le_refl _) (.cells #[.int .i64 x.rows, .int .i64 x.cols, .slice aA an ac, .int .i64 x.row, .int .i64 x.col] 28))
      have HF1 := hide (HFr.out.below hba)
      have HO1 := hide (HOr.out.below hba)
      have HT1 := hide (tabs_below HTr.out hba)
      have HB1 := hide (below_next HB.out hba)
      clear f0 f1 f2 f3 f4 o0 o1 o2 o3 o4 hba hb4 hown
      obtain ⟨f0, f1, f2, f3, f4⟩ := HF1.out.reads
      obtain ⟨o0, o1, o2, o3, o4⟩ := HO1.out.reads
      have hDw := HF1.out.lt
      have hEw := HO1.out.lt
      go_wp2_with fail
      refine (rresize_frame f _ (f.rows + k) (f.cols - k) _ HO1.out.2).mono ?_
      rintro e w5 ⟨v5, rfl, hown, hb5⟩
      rw [HX1.out] at hown
      rw [HY1.out]
      obtain ⟨bA, bn, bc, rfl, -, -, -⟩ := hown.at.form
      have HA2 := hide (HA1.out.below (below_next hb5 ((Below.refl w5.heap.size w5).alloc (Nat.le_refl _) (.cells #[.int .i64 x.rows, .int .i64 x.cols, .slice bA bn bc, .int .i64 x.row, .int .i64 x.col] 28))))
      have HBx := hide hown.at.box
      have hba := below_next hb5 ((Below.refl w5.heap.size w5).alloc (Nat.le_refl _) (.cells #[.int .i64 x.rows, .int .i64 x.cols, .slice bA bn bc, .int .i64 x.row, .int .i64 x.col] 28))
      have HF2 := hide (HF1.out.below hba)
      have HO2 := hide (HO1.out.below hba)
      have HB2 := hide (below_next HB1.out hba)
      clear f0 f1 f2 f3 f4 o0 o1 o2 o3 o4 hba hb5 hown hDw hEw
      obtain ⟨f0, f1, f2, f3, f4⟩ := HF2.out.reads
      obtain ⟨o0, o1, o2, o3, o4⟩ := HO2.out.reads
      obtain ⟨a0, a1, a2, a3, a4⟩ := HA2.out.reads
      go_wp2_with fail
      refine (rsame_is x x true (decide_eq_true rfl) _ _ _ HA2.out.2 HBx.out.2).mono ?_
      rintro e w6 ⟨rfl, hb6⟩
      have HF3 := hide (HF2.out.below hb6)
      have HO3 := hide (HO2.out.below hb6)
      have HB3 := hide (below_next HB2.out hb6)
      clear f0 f1 f2 f3 f4 o0 o1 o2 o3 o4 a0 a1 a2 a3 a4 hb6
      obtain ⟨f0, f1, f2, f3, f4⟩ := HF3.out.reads
      obtain ⟨o0, o1, o2, o3, o4⟩ := HO3.out.reads
      go_wp2_with fail
      refine (rsame_is f f true (decide_eq_true rfl) _ _ _ HF3.out.2 HO3.out.2).mono ?_
      rintro e w7 ⟨rfl, hb7⟩
      have HB4 := hide (below_next HB3.out hb7)
      clear f0 f1 f2 f3 f4 o0 o1 o2 o3 o4 hb7
      go_wp2_with fail
      go_roundw
      case rel => exact ⟨k + 1, by go_num, by omega, by omega, HB4⟩
      case measure => simp [intOf]; omega
    · go_wp2_with fail
      refine (resize_frame f _ r c _ HFr.out.2 HTr.out.1 HTr.out.2).mono ?_
      rintro e w4 ⟨v4, rfl, hown, hb4⟩
      obtain ⟨x, hx⟩ : ∃ x, resF f r c = x := ⟨_, rfl⟩
      obtain ⟨y, hy⟩ : ∃ y, resE f r c = y := ⟨_, rfl⟩
      rw [hx] at hown
      rw [hy]
      have HX1 := hide hx
      have HY1 := hide hy
      clear hx hy
      obtain ⟨aA, an, ac, rfl, -, -, -⟩ := hown.at.form
      have HA1 := hide hown.at.box
      have hba := below_next hb4 ((Below.refl w4.heap.size w4).alloc (Nat.le_refl _) (.cells #[.int .i64 x.rows, .int .i64 x.cols, .slice aA an ac, .int .i64 x.row, .int .i64 x.col] 28))
      have HF1 := hide (HFr.out.below hba)
      have HO1 := hide (HOr.out.below hba)
      have HT1 := hide (tabs_below HTr.out hba)
      have HB1 := hide (below_next HB.out hba)
      clear f0 f1 f2 f3 f4 o0 o1 o2 o3 o4 hba hb4 hown
      obtain ⟨f0, f1, f2, f3, f4⟩ := HF1.out.reads
      obtain ⟨o0, o1, o2, o3, o4⟩ := HO1.out.reads
      have hDw := HF1.out.lt
      have hEw := HO1.out.lt
      go_wp2_with fail
      refine (rresize_frame f _ r c _ HO1.out.2).mono ?_
      rintro e w5 ⟨v5, rfl, hown, hb5⟩
      rw [HX1.out] at hown
      rw [HY1.out]
      obtain ⟨bA, bn, bc, rfl, -, -, -⟩ := hown.at.form
      have HA2 := hide (HA1.out.below (below_next hb5 ((Below.refl w5.heap.size w5).alloc (Nat.le_refl _) (.cells #[.int .i64 x.rows, .int .i64 x.cols, .slice bA bn bc, .int .i64 x.row, .int .i64 x.col] 28))))
      have HBx := hide hown.at.box
      have hba := below_next hb5 ((Below.refl w5.heap.size w5).alloc (Nat.le_refl _) (.cells #[.int .i64 x.rows, .int .i64 x.cols, .slice bA bn bc, .int .i64 x.row, .int .i64 x.col] 28))
      have HF2 := hide (HF1.out.below hba)
      have HO2 := hide (HO1.out.below hba)
      have HB2 := hide (below_next HB1.out hba)
      clear f0 f1 f2 f3 f4 o0 o1 o2 o3 o4 hba hb5 hown hDw hEw
      obtain ⟨f0, f1, f2, f3, f4⟩ := HF2.out.reads
      obtain ⟨o0, o1, o2, o3, o4⟩ := HO2.out.reads
      obtain ⟨a0, a1, a2, a3, a4⟩ := HA2.out.reads
      go_wp2_with fail
      refine (rsame_is x x true (decide_eq_true rfl) _ _ _ HA2.out.2 HBx.out.2).mono ?_
      rintro e w6 ⟨rfl, hb6⟩
      have HF3 := hide (HF2.out.below hb6)
      have HO3 := hide (HO2.out.below hb6)
      have HB3 := hide (below_next HB2.out hb6)
      clear f0 f1 f2 f3 f4 o0 o1 o2 o3 o4 a0 a1 a2 a3 a4 hb6
      obtain ⟨f0, f1, f2, f3, f4⟩ := HF3.out.reads
      obtain ⟨o0, o1, o2, o3, o4⟩ := HO3.out.reads
      go_wp2_with fail
      refine (rsame_is f f true (decide_eq_true rfl) _ _ _ HF3.out.2 HO3.out.2).mono ?_
      rintro e w7 ⟨rfl, hb7⟩
      have HB4 := hide (below_next HB3.out hb7)
      clear f0 f1 f2 f3 f4 o0 o1 o2 o3 o4 hb7
      go_wp2_with fail
      go_roundw
      case rel => exact ⟨k + 1, by go_num, by omega, by omega, HB4⟩
      case measure => simp [intOf]; omega
end Go.Proofs.YtojjdckpbmjjdaaDoor
