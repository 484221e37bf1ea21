/- Walk of the law GridsRaw. -/
import Derived.Test.YtojjdckpbmjjdaaDoorGlsame
namespace Go.Proofs.YtojjdckpbmjjdaaDoor
open Go.RowKit

def ikV (x : Ik) : Value := .agg #[.int .i64 x.row, .int .i64 x.col, .int .i32 x.r, .int .i64 x.fg, .bool x.bo, .bool x.un, .bool x.iv]
set_option maxRecDepth 100000 in
set_option maxHeartbeats 4000000 in
theorem raw_great1 (a b : Fr) (x : Ik) (v u : Value) (w : World) (h : FrAt w v a) (h' : FrAt w u b) (hT : WTabs w) (hB : BTab w) (hl : 300 < a.cs.length) :
    Calls Tryd.prog 4 #[v, u, ikV x] w fun e w' => e = .returned (.bool true) ∧ Below w.heap.size w w' := by
  obtain ⟨A, n, c, rfl, hn, hnc, hcm⟩ := h.form
  obtain ⟨C, m, d, rfl, hm, hmd, hdm⟩ := h'.form
  have HP := hide h
  have HQ := hide h'
  have HT := hide (And.intro hT hB)
  rw [← hn] at hl
  obtain ⟨x0, x1, r, fg, bo, un, iv⟩ := x
  unfold ikV
  dsimp only
  clear h h' hT hB hn hm
  unfold maxLen at hcm hdm
  have HA := hide (((((Below.refl w.heap.size w).alloc (Nat.le_refl _) (.cells #[.int .i64 a.rows, .int .i64 a.cols, .slice A n c, .int .i64 a.row, .int .i64 a.col] 28)).alloc (by simp) (.cells #[.int .i64 b.rows, .int .i64 b.cols, .slice C m d, .int .i64 b.row, .int .i64 b.col] 28))).alloc (by simp; omega) (.cells #[.int .i64 x0, .int .i64 x1, .int .i32 r, .int .i64 fg, .bool bo, .bool un, .bool iv] 37))
  go_enter Tryd.func4, Tryd.ntmps4
  go_wp2_with fail
  refine (shown_any _ (tabs_below HT.out HA.out).1 (tabs_below HT.out HA.out).2).mono ?_
  rintro e w2 ⟨rfl, hb2⟩
  have HA2 := hide (below_next HA.out hb2)
  clear hb2
  go_wp2_with fail
  go_ret
  exact ⟨rfl, HA2.out⟩
set_option maxRecDepth 100000 in
set_option maxHeartbeats 4000000 in
theorem raw_great2 (a b : Fr) (x : Ik) (v u : Value) (w : World) (h : FrAt w v a) (h' : FrAt w u b) (hT : WTabs w) (hB : BTab w) (hl : a.cs.length ≤ 300) (hl2 : 300 < b.cs.length) :
    Calls Tryd.prog 4 #[v, u, ikV x] w fun e w' => e = .returned (.bool true) ∧ Below w.heap.size w w' := by
  obtain ⟨A, n, c, rfl, hn, hnc, hcm⟩ := h.form
  obtain ⟨C, m, d, rfl, hm, hmd, hdm⟩ := h'.form
  have HP := hide h
  have HQ := hide h'
  have HT := hide (And.intro hT hB)
  rw [← hn] at hl
  obtain ⟨x0, x1, r, fg, bo, un, iv⟩ := x
  unfold ikV
  dsimp only
  rw [← hm] at hl2
  clear h h' hT hB hn hm
  unfold maxLen at hcm hdm
  have HA := hide (((((Below.refl w.heap.size w).alloc (Nat.le_refl _) (.cells #[.int .i64 a.rows, .int .i64 a.cols, .slice A n c, .int .i64 a.row, .int .i64 a.col] 28)).alloc (by simp) (.cells #[.int .i64 b.rows, .int .i64 b.cols, .slice C m d, .int .i64 b.row, .int .i64 b.col] 28))).alloc (by simp; omega) (.cells #[.int .i64 x0, .int .i64 x1, .int .i32 r, .int .i64 fg, .bool bo, .bool un, .bool iv] 37))
  go_enter Tryd.func4, Tryd.ntmps4
  go_wp2_with fail
  refine (shown_any _ (tabs_below HT.out HA.out).1 (tabs_below HT.out HA.out).2).mono ?_
  rintro e w2 ⟨rfl, hb2⟩
  have HA2 := hide (below_next HA.out hb2)
  clear hb2
  go_wp2_with fail
  go_ret
  exact ⟨rfl, HA2.out⟩
set_option maxRecDepth 100000 in
set_option maxHeartbeats 4000000 in
theorem law_raw (a b : Fr) (x : Ik) (v u : Value) (w : World) (h : FrAt w v a) (h' : FrAt w u b) (hT : WTabs w) (hB : BTab w) :
    Calls Tryd.prog 4 #[v, u, ikV x] w fun e w' => e = .returned (.bool true) ∧ Below w.heap.size w w' := by
  by_cases hl : a.cs.length ≤ 300
  case neg => exact raw_great1 a b x v u w h h' hT hB (by omega)
  by_cases hl2 : b.cs.length ≤ 300
  case neg => exact raw_great2 a b x v u w h h' hT hB hl (by omega)
  obtain ⟨A, n, c, rfl, hn, hnc, hcm⟩ := h.form
  obtain ⟨C, m, d, rfl, hm, hmd, hdm⟩ := h'.form
  have HP := hide h
  have HQ := hide h'
  have HT := hide (And.intro hT hB)
  obtain ⟨x0, x1, r, fg, bo, un, iv⟩ := x
  unfold ikV
  dsimp only
  rw [← hn] at hl
  rw [← hm] at hl2
  clear h h' hT hB hn hm
  unfold maxLen at hcm hdm
  have HA := hide (((((Below.refl w.heap.size w).alloc (Nat.le_refl _) (.cells #[.int .i64 a.rows, .int .i64 a.cols, .slice A n c, .int .i64 a.row, .int .i64 a.col] 28)).alloc (by simp) (.cells #[.int .i64 b.rows, .int .i64 b.cols, .slice C m d, .int .i64 b.row, .int .i64 b.col] 28))).alloc (by simp; omega) (.cells #[.int .i64 x0, .int .i64 x1, .int .i32 r, .int .i64 fg, .bool bo, .bool un, .bool iv] 37))
  have HBa := hide (show BoxF (((w.alloc (.cells #[.int .i64 a.rows, .int .i64 a.cols, .slice A n c, .int .i64 a.row, .int .i64 a.col] 28)).alloc (.cells #[.int .i64 b.rows, .int .i64 b.cols, .slice C m d, .int .i64 b.row, .int .i64 b.col] 28)).alloc (.cells #[.int .i64 x0, .int .i64 x1, .int .i32 r, .int .i64 fg, .bool bo, .bool un, .bool iv] 37)) (w.heap.size) a A n c from ⟨((Blk.new w _ _).alloc _).alloc _, HP.out.below HA.out⟩)
  have HBb := hide (show BoxF (((w.alloc (.cells #[.int .i64 a.rows, .int .i64 a.cols, .slice A n c, .int .i64 a.row, .int .i64 a.col] 28)).alloc (.cells #[.int .i64 b.rows, .int .i64 b.cols, .slice C m d, .int .i64 b.row, .int .i64 b.col] 28)).alloc (.cells #[.int .i64 x0, .int .i64 x1, .int .i32 r, .int .i64 fg, .bool bo, .bool un, .bool iv] 37)) (w.heap.size + 1) b C m d from ⟨(Blk.newAt (W := w.alloc (.cells #[.int .i64 a.rows, .int .i64 a.cols, .slice A n c, .int .i64 a.row, .int .i64 a.col] 28)) (cs := frCells b.rows b.cols (.slice C m d) b.row b.col) (World.size_alloc _ _)).alloc _, HQ.out.below HA.out⟩)
  have HBi := hide (show ikBox (((w.alloc (.cells #[.int .i64 a.rows, .int .i64 a.cols, .slice A n c, .int .i64 a.row, .int .i64 a.col] 28)).alloc (.cells #[.int .i64 b.rows, .int .i64 b.cols, .slice C m d, .int .i64 b.row, .int .i64 b.col] 28)).alloc (.cells #[.int .i64 x0, .int .i64 x1, .int .i32 r, .int .i64 fg, .bool bo, .bool un, .bool iv] 37)) (w.heap.size + 1 + 1) ⟨x0, x1, r, fg, bo, un, iv⟩ from Blk.newAt (W := (w.alloc (.cells #[.int .i64 a.rows, .int .i64 a.cols, .slice A n c, .int .i64 a.row, .int .i64 a.col] 28)).alloc (.cells #[.int .i64 b.rows, .int .i64 b.cols, .slice C m d, .int .i64 b.row, .int .i64 b.col] 28)) (cs := ikCells ⟨x0, x1, r, fg, bo, un, iv⟩) (by simp only [World.size_alloc]))
  go_enter Tryd.func4, Tryd.ntmps4
  go_wp2_with fail
  refine (resize_frame a _ x0 x1 _ HBa.out.2 (tabs_below HT.out HA.out).1 (tabs_below HT.out HA.out).2).mono ?_
  rintro e w1 ⟨v1, rfl, hown, hb1⟩
  obtain ⟨g, hg⟩ : ∃ f, resF a x0 x1 = f := ⟨_, rfl⟩
  obtain ⟨y, hy⟩ : ∃ f, resE a x0 x1 = f := ⟨_, rfl⟩
  rw [hg] at hown
  rw [hy]
  have HG := hide hg
  have HY := hide hy
  clear hg hy
  obtain ⟨gA, gn, gc, rfl, -, -, -⟩ := hown.at.form
  have HGb := hide hown.at.box
  have hba := below_next hb1 (fr_alloc w1 g gA gn gc)
  have HBa1 := hide (HBa.out.below hba)
  have HBb1 := hide (HBb.out.below hba)
  have HBi1 := hide (HBi.out.below hba)
  have HA1 := hide (below_next HA.out hba)
  clear hba hown hb1 HBa HBb HBi HA
  obtain ⟨a0, a1, a2, a3, a4⟩ := HBa1.out.reads
  obtain ⟨i0, i1, i2, i3, i4, i5, i6⟩ := HBi1.out.reads
  dsimp only at i0 i1 i2 i3 i4 i5 i6
  go_wp2_with fail
  obtain ⟨E, hE⟩ : ∃ E, w1.heap.size = E := ⟨_, rfl⟩
  rw [hE] at HGb ⊢
  refine (rresize_frame a _ x0 x1 _ HBa1.out.2).mono ?_
  rintro e w2 ⟨v2, rfl, hown, hb2⟩
  rw [HG.out] at hown
  rw [HY.out]
  obtain ⟨kA, kn, kc, rfl, -, -, -⟩ := hown.at.form
  have HKb := hide hown.at.box
  have hba := below_next hb2 (fr_alloc w2 g kA kn kc)
  have HG2' := hide (HGb.out.below hba)
  have HBa2 := hide (HBa1.out.below hba)
  have HBb2 := hide (HBb1.out.below hba)
  have HBi2 := hide (HBi1.out.below hba)
  have HA2' := hide (below_next HA1.out hba)
  clear hba hown hb2 HBa1 HBb1 HBi1 HA1 a0 a1 a2 a3 a4 i0 i1 i2 i3 i4 i5 i6 hE HGb
  go_wp2_with fail
  obtain ⟨G, hG⟩ : ∃ G, w2.heap.size = G := ⟨_, rfl⟩
  rw [hG] at HKb ⊢
  obtain ⟨X, hX⟩ : ∃ X, w2.alloc (.cells #[.int .i64 g.rows, .int .i64 g.cols, .slice kA kn kc, .int .i64 g.row, .int .i64 g.col] 28) = X := ⟨_, rfl⟩
  rw [hX] at HKb HG2' HBa2 HBb2 HBi2 HA2' ⊢
  have HA2 := hide (show BoxF X (w.heap.size) a A n c from HBa2.out)
  have HB2 := hide (show BoxF X (w.heap.size + 1) b C m d from HBb2.out)
  have HG2 := hide (show BoxF X E g gA gn gc from HG2'.out)
  have HK2 := hide (show BoxF X G g kA kn kc from HKb.out)
  have HI2 := hide (show ikBox X (w.heap.size + 1 + 1) ⟨x0, x1, r, fg, bo, un, iv⟩ from HBi2.out)
  have HW2 := hide (show Below w.heap.size w X from HA2'.out)
  have HT2 := hide (tabs_below HT.out HW2.out)
  clear hG hX HKb HG2' HBa2 HBb2 HBi2 HA2'
  obtain ⟨vb, hvb⟩ : ∃ z, validF a = z := ⟨_, rfl⟩
  obtain ⟨sb, hsb⟩ : ∃ z, decide (a = b) = z := ⟨_, rfl⟩
  obtain ⟨db, hdb⟩ : ∃ z, diffF a b = z := ⟨_, rfl⟩
  have HVB := hide hvb
  have HSB := hide hsb
  have HDB := hide hdb
  clear hvb hsb hdb
  have HS := hide (show ∀ W, Below X.heap.size X W → ((W.cell? ⟨w.heap.size, 0, none⟩ = some (.int .i64 a.rows) ∧ W.cell? ⟨w.heap.size, 1, none⟩ = some (.int .i64 a.cols) ∧ W.cell? ⟨w.heap.size, 2, none⟩ = some (.slice A n c) ∧ W.cell? ⟨w.heap.size, 3, none⟩ = some (.int .i64 a.row) ∧ W.cell? ⟨w.heap.size, 4, none⟩ = some (.int .i64 a.col)) ∧ (W.cell? ⟨w.heap.size + 1, 0, none⟩ = some (.int .i64 b.rows) ∧ W.cell? ⟨w.heap.size + 1, 1, none⟩ = some (.int .i64 b.cols) ∧ W.cell? ⟨w.heap.size + 1, 2, none⟩ = some (.slice C m d) ∧ W.cell? ⟨w.heap.size + 1, 3, none⟩ = some (.int .i64 b.row) ∧ W.cell? ⟨w.heap.size + 1, 4, none⟩ = some (.int .i64 b.col)) ∧ (W.cell? ⟨E, 0, none⟩ = some (.int .i64 g.rows) ∧ W.cell? ⟨E, 1, none⟩ = some (.int .i64 g.cols) ∧ W.cell? ⟨E, 2, none⟩ = some (.slice gA gn gc) ∧ W.cell? ⟨E, 3, none⟩ = some (.int .i64 g.row) ∧ W.cell? ⟨E, 4, none⟩ = some (.int .i64 g.col)) ∧ (W.cell? ⟨G, 0, none⟩ = some (.int .i64 g.rows) ∧ W.cell? ⟨G, 1, none⟩ = some (.int .i64 g.cols) ∧ W.cell? ⟨G, 2, none⟩ = some (.slice kA kn kc) ∧ W.cell? ⟨G, 3, none⟩ = some (.int .i64 g.row) ∧ W.cell? ⟨G, 4, none⟩ = some (.int .i64 g.col))) from fun W hW => ⟨(HA2.out.below hW).reads, (HB2.out.below hW).reads, (HG2.out.below hW).reads, (HK2.out.below hW).reads⟩)
  have HX := hide (show Below X.heap.size X X.drew from (Below.refl _ _).drew)
  have TK1 : True := trivial
  go_region_held3 (fun W => ((W.cell? ⟨w.heap.size, 0, none⟩ = some (.int .i64 a.rows) ∧ W.cell? ⟨w.heap.size, 1, none⟩ = some (.int .i64 a.cols) ∧ W.cell? ⟨w.heap.size, 2, none⟩ = some (.slice A n c) ∧ W.cell? ⟨w.heap.size, 3, none⟩ = some (.int .i64 a.row) ∧ W.cell? ⟨w.heap.size, 4, none⟩ = some (.int .i64 a.col)) ∧ (W.cell? ⟨w.heap.size + 1, 0, none⟩ = some (.int .i64 b.rows) ∧ W.cell? ⟨w.heap.size + 1, 1, none⟩ = some (.int .i64 b.cols) ∧ W.cell? ⟨w.heap.size + 1, 2, none⟩ = some (.slice C m d) ∧ W.cell? ⟨w.heap.size + 1, 3, none⟩ = some (.int .i64 b.row) ∧ W.cell? ⟨w.heap.size + 1, 4, none⟩ = some (.int .i64 b.col)) ∧ (W.cell? ⟨E, 0, none⟩ = some (.int .i64 g.rows) ∧ W.cell? ⟨E, 1, none⟩ = some (.int .i64 g.cols) ∧ W.cell? ⟨E, 2, none⟩ = some (.slice gA gn gc) ∧ W.cell? ⟨E, 3, none⟩ = some (.int .i64 g.row) ∧ W.cell? ⟨E, 4, none⟩ = some (.int .i64 g.col)) ∧ (W.cell? ⟨G, 0, none⟩ = some (.int .i64 g.rows) ∧ W.cell? ⟨G, 1, none⟩ = some (.int .i64 g.cols) ∧ W.cell? ⟨G, 2, none⟩ = some (.slice kA kn kc) ∧ W.cell? ⟨G, 3, none⟩ = some (.int .i64 g.row) ∧ W.cell? ⟨G, 4, none⟩ = some (.int .i64 g.col))))
    (exact HS.out _ HX.out)
    (first
      | (go_at_call 26; have tk := TK1; refine (valid_is a vb HVB.out _ _ (HA2.out.2.below HX.out) (tabs_below HT2.out HX.out).1).mono ?_; rintro e y1 ⟨rfl, hb1⟩; replace HX := hide (below_next HX.out hb1); clear hb1; clear TK1 tk; have TK2 : True := trivial)
      | (go_at_call 27; have tk := TK2; refine (rvalid_is a vb HVB.out _ _ (HA2.out.2.below HX.out)).mono ?_; rintro e y2 ⟨rfl, hb2⟩; replace HX := hide (below_next HX.out hb2); clear hb2; clear TK2 tk; have TK3 : True := trivial)
      | (go_at_call 13; have tk := TK3; refine (same_is a b sb HSB.out _ _ _ (HA2.out.2.below HX.out) (HB2.out.2.below HX.out)).mono ?_; rintro e y3 ⟨rfl, hb3⟩; replace HX := hide (below_next HX.out hb3); clear hb3; clear TK3 tk; have TK4 : True := trivial)
      | (go_at_call 14; have tk := TK4; refine (rsame_is a b sb HSB.out _ _ _ (HA2.out.2.below HX.out) (HB2.out.2.below HX.out)).mono ?_; rintro e y4 ⟨rfl, hb4⟩; replace HX := hide (below_next HX.out hb4); clear hb4; clear TK4 tk; have TK5 : True := trivial)
      | (go_at_call 13; have tk := TK5; refine (same_is a a true (decide_eq_true rfl) _ _ _ (HA2.out.2.below HX.out) (HA2.out.2.below HX.out)).mono ?_; rintro e y5 ⟨rfl, hb5⟩; replace HX := hide (below_next HX.out hb5); clear hb5; clear TK5 tk; have TK6 : True := trivial)
      | (go_at_call 22; have tk := TK6; refine (diff_is a b db HDB.out _ _ _ (HA2.out.2.below HX.out) (HB2.out.2.below HX.out) (tabs_below HT2.out HX.out).1).mono ?_; rintro e y6 ⟨rfl, hb6⟩; replace HX := hide (below_next HX.out hb6); clear hb6; clear TK6 tk; have TK7 : True := trivial)
      | (go_at_call 23; have tk := TK7; refine (rdiff_is a b db HDB.out _ _ _ (HA2.out.2.below HX.out) (HB2.out.2.below HX.out)).mono ?_; rintro e y7 ⟨rfl, hb7⟩; replace HX := hide (below_next HX.out hb7); clear hb7; clear TK7 tk; have TK8 : True := trivial)
      | (go_at_call 14; have tk := TK8; refine (rsame_is g g true (decide_eq_true rfl) _ _ _ (HG2.out.2.below HX.out) (HK2.out.2.below HX.out)).mono ?_; rintro e y8 ⟨rfl, hb8⟩; replace HX := hide (below_next HX.out hb8); clear hb8; clear TK8 tk; have TK9 : True := trivial)
      | fail)
  all_goals go_wp2_with fail
  obtain ⟨Y, hY⟩ : ∃ Y, y8 = Y := ⟨_, rfl⟩
  subst hY
  have HA3 := hide (HA2.out.below HX.out)
  have HI3 := hide (HI2.out.below HX.out)
  have HW3 := hide (below_next HW2.out HX.out)
  have HT3 := hide (tabs_below HT2.out HX.out)
  clear HA2 HB2 HG2 HK2 HI2 HW2 HT2 HS HX TK9
  have HS := hide (show ∀ W, Below y8.heap.size y8 W → ((W.cell? ⟨w.heap.size, 0, none⟩ = some (.int .i64 a.rows) ∧ W.cell? ⟨w.heap.size, 1, none⟩ = some (.int .i64 a.cols) ∧ W.cell? ⟨w.heap.size, 2, none⟩ = some (.slice A n c) ∧ W.cell? ⟨w.heap.size, 3, none⟩ = some (.int .i64 a.row) ∧ W.cell? ⟨w.heap.size, 4, none⟩ = some (.int .i64 a.col)) ∧ (W.cell? ⟨w.heap.size + 1 + 1, 0, none⟩ = some (.int .i64 x0) ∧ W.cell? ⟨w.heap.size + 1 + 1, 1, none⟩ = some (.int .i64 x1) ∧ W.cell? ⟨w.heap.size + 1 + 1, 2, none⟩ = some (.int .i32 r) ∧ W.cell? ⟨w.heap.size + 1 + 1, 3, none⟩ = some (.int .i64 fg) ∧ W.cell? ⟨w.heap.size + 1 + 1, 4, none⟩ = some (.bool bo) ∧ W.cell? ⟨w.heap.size + 1 + 1, 5, none⟩ = some (.bool un) ∧ W.cell? ⟨w.heap.size + 1 + 1, 6, none⟩ = some (.bool iv))) from fun W hW => ⟨(HA3.out.below hW).reads, (HI3.out.below hW).reads⟩)
  have HX := hide (show Below y8.heap.size y8 y8.drew from (Below.refl _ _).drew)
  have TK1 : True := trivial
  go_region_held3 (fun W => ((W.cell? ⟨w.heap.size, 0, none⟩ = some (.int .i64 a.rows) ∧ W.cell? ⟨w.heap.size, 1, none⟩ = some (.int .i64 a.cols) ∧ W.cell? ⟨w.heap.size, 2, none⟩ = some (.slice A n c) ∧ W.cell? ⟨w.heap.size, 3, none⟩ = some (.int .i64 a.row) ∧ W.cell? ⟨w.heap.size, 4, none⟩ = some (.int .i64 a.col)) ∧ (W.cell? ⟨w.heap.size + 1 + 1, 0, none⟩ = some (.int .i64 x0) ∧ W.cell? ⟨w.heap.size + 1 + 1, 1, none⟩ = some (.int .i64 x1) ∧ W.cell? ⟨w.heap.size + 1 + 1, 2, none⟩ = some (.int .i32 r) ∧ W.cell? ⟨w.heap.size + 1 + 1, 3, none⟩ = some (.int .i64 fg) ∧ W.cell? ⟨w.heap.size + 1 + 1, 4, none⟩ = some (.bool bo) ∧ W.cell? ⟨w.heap.size + 1 + 1, 5, none⟩ = some (.bool un) ∧ W.cell? ⟨w.heap.size + 1 + 1, 6, none⟩ = some (.bool iv))))
    (exact HS.out _ HX.out)
    (first
      | (go_at_call 17; have tk := TK1; refine (put_frame a _ x0 x1 ⟨r, 0, fg, bo, un, iv⟩ _ (HA3.out.2.below HX.out) (tabs_below HT3.out HX.out).1 (tabs_below HT3.out HX.out).2).mono ?_; rintro e z1 ⟨v1, rfl, hown, hb1⟩; obtain ⟨q1, q2, q3, rfl, -, -, -⟩ := hown.at.form; have HP1 := hide hown.at; clear hown; replace HX := hide (below_next HX.out hb1); clear hb1; clear TK1 tk; have TK2 : True := trivial)
      | (go_at_call 18; have tk := TK2; refine (rput_frame a _ x0 x1 ⟨r, 0, fg, bo, un, iv⟩ _ (HA3.out.2.below HX.out)).mono ?_; rintro e z2 ⟨v2, rfl, hown, hb2⟩; obtain ⟨q4, q5, q6, rfl, -, -, -⟩ := hown.at.form; have HP2 := hide hown.at; replace HP1 := hide (HP1.out.below hb2); clear hown; replace HX := hide (below_next HX.out hb2); clear hb2; clear TK2 tk; have TK3 : True := trivial)
      | (go_at_call 14; have tk := TK3; refine (rsame_is _ _ true (decide_eq_true rfl) _ _ _ HP1.out HP2.out).mono ?_; rintro e z3 ⟨rfl, hb3⟩; clear HP1 HP2; replace HX := hide (below_next HX.out hb3); clear hb3; clear TK3 tk; have TK4 : True := trivial)
      | (go_at_call 20; have tk := TK4; refine (rows_any a _ _ (HA3.out.2.below HX.out) (tabs_below HT3.out HX.out).1).mono ?_; rintro e z4 ⟨s4, rfl, hos, hb4⟩; have HS4 := hide (hos.reads (rowsF_le _)); clear hos; replace HX := hide (below_next HX.out hb4); clear hb4; clear TK4 tk; have TK5 : True := trivial)
      | (go_at_call 21; have tk := TK5; refine (rrows_any a _ _ (HA3.out.2.below HX.out)).mono ?_; rintro e z5 ⟨s5, rfl, hos, hb5⟩; have HS5 := hide (hos.reads (rowsF_le _)); replace HS4 := hide (HS4.out.below hb5); clear hos; replace HX := hide (below_next HX.out hb5); clear hb5; clear TK5 tk; have TK6 : True := trivial)
      | (go_at_call 19; have tk := TK6; refine (strings_same (rowsF a) _ _ _ HS4.out HS5.out).mono ?_; rintro e z6 ⟨rfl, hb6⟩; clear HS4 HS5; replace HX := hide (below_next HX.out hb6); clear hb6; clear TK6 tk; have TK7 : True := trivial)
      | (go_at_call 10; have tk := TK7; refine (shown_any _ (tabs_below HT3.out HX.out).1 (tabs_below HT3.out HX.out).2).mono ?_; rintro e z7 ⟨rfl, hb7⟩; replace HX := hide (below_next HX.out hb7); clear hb7; clear TK7 tk; have TK8 : True := trivial)
      | fail)
  all_goals go_wp2_with fail
  go_ret
  exact ⟨rfl, below_next HW3.out HX.out⟩
end Go.Proofs.YtojjdckpbmjjdaaDoor
