/- Walk of the law GridsPut. -/
import Derived.Test.YtojjdckpbmjjdaaDoorGlres
namespace Go.Proofs.YtojjdckpbmjjdaaDoor
open Go.RowKit

set_option maxRecDepth 100000 in
set_option maxHeartbeats 4000000 in
theorem great_shown_put (p : Pt) (v : Value) (w : World) (h : PtAt w v p) (hT : WTabs w) (hB : BTab w) (hg : decide (60 < p.ink.length) = true) :
    Calls Tryd.prog 3 #[v] w fun e w' => e = .returned (.bool true) ∧ Below w.heap.size w w' := by
  have HG := hide hg
  have HP := hide h
  have HT := hide (And.intro hT hB)
  obtain ⟨A, n, cap, rfl, -, -, -⟩ := pt_form h
  clear h hT hB hg
  have HA := hide ((Below.refl w.heap.size w).alloc (Nat.le_refl _) (.cells #[.int .i64 p.rows, .int .i64 p.cols, .slice A n cap, .int .i64 p.row, .int .i64 p.col] 24))
  go_enter Tryd.func3, Tryd.ntmps3
  go_wp2_with fail
  refine (great_is p true HG.out _ _ (HP.out.below HA.out)).mono ?_
  rintro e w1 ⟨rfl, hb1⟩
  have HA1 := hide (below_next HA.out hb1)
  clear hb1
  go_wp2_with fail
  refine (shown_any _ (tabs_below HT.out HA1.out).1 (tabs_below HT.out HA1.out).2).mono ?_
  rintro e w2 ⟨rfl, hb2⟩
  have HA2 := hide (below_next HA1.out hb2)
  clear hb2
  go_wp2_with fail
  go_ret
  exact ⟨rfl, HA2.out⟩
theorem ikAt_get {W : World} {A : Option Addr} {L : List Ik} (h : RowOf W 7 ikCells A L) {j : Nat} {x : Ik} (hj : L[j]? = some x) : ∃ b o, A = some ⟨b, o, none⟩ ∧ b < W.heap.size ∧ W.cell? ⟨b, o + j * 7, none⟩ = some (.int .i64 x.row) ∧ W.cell? ⟨b, o + j * 7 + 1, none⟩ = some (.int .i64 x.col) ∧ W.cell? ⟨b, o + j * 7 + 2, none⟩ = some (.int .i32 x.r) ∧ W.cell? ⟨b, o + j * 7 + 3, none⟩ = some (.int .i64 x.fg) ∧ W.cell? ⟨b, o + j * 7 + 4, none⟩ = some (.bool x.bo) ∧ W.cell? ⟨b, o + j * 7 + 5, none⟩ = some (.bool x.un) ∧ W.cell? ⟨b, o + j * 7 + 6, none⟩ = some (.bool x.iv) := by
  obtain ⟨b, o, e, hlt, hc⟩ := h j x hj
  exact ⟨b, o, e, hlt, hc 0 _ rfl, hc 1 _ rfl, hc 2 _ rfl, hc 3 _ rfl, hc 4 _ rfl, hc 5 _ rfl, hc 6 _ rfl⟩
def ikBox (W : World) (b : Nat) (x : Ik) : Prop := Blk W b 37 (ikCells x)
theorem ikBox.below {W W' : World} {b : Nat} {x : Ik} (h : ikBox W b x) (hb : Below W.heap.size W W') : ikBox W' b x := Blk.below h hb
theorem ikBox.lt {W : World} {b : Nat} {x : Ik} (h : ikBox W b x) : b < W.heap.size := Blk.lt h
theorem ikBox.reads {W : World} {b : Nat} {x : Ik} (h : ikBox W b x) : W.cell? ⟨b, 0, none⟩ = some (.int .i64 x.row) ∧ W.cell? ⟨b, 1, none⟩ = some (.int .i64 x.col) ∧ W.cell? ⟨b, 2, none⟩ = some (.int .i32 x.r) ∧ W.cell? ⟨b, 3, none⟩ = some (.int .i64 x.fg) ∧ W.cell? ⟨b, 4, none⟩ = some (.bool x.bo) ∧ W.cell? ⟨b, 5, none⟩ = some (.bool x.un) ∧ W.cell? ⟨b, 6, none⟩ = some (.bool x.iv) :=
  ⟨h.cell (i := 0) rfl, h.cell (i := 1) rfl, h.cell (i := 2) rfl, h.cell (i := 3) rfl, h.cell (i := 4) rfl, h.cell (i := 5) rfl, h.cell (i := 6) rfl⟩
theorem BoxF.put {W : World} {b : Nat} {f g : Fr} {A A' : Option Addr} {n c n' c' : Nat} (h : BoxF W b f A n c) (hg : FrAt (frSet W b g.rows g.cols (.slice A' n' c') g.row g.col) (.agg #[.int .i64 g.rows, .int .i64 g.cols, .slice A' n' c', .int .i64 g.row, .int .i64 g.col]) g) : BoxF (frSet W b g.rows g.cols (.slice A' n' c') g.row g.col) b g A' n' c' := ⟨fr_put h.1 _ _ _ _ _, hg⟩
theorem FrOwn.low {W : World} {B z : Nat} {v : Value} {f : Fr} (h : FrOwn W B v f) (hz : z < B) (a b : Int) (s : Value) (c d : Int) : FrOwn (frSet W z a b s c d) B v f := by
  obtain ⟨A, cap, rfl, h1, h2⟩ := h
  exact ⟨A, cap, rfl, h1, fr_low h2 hz a b s c d⟩
theorem below_on {B : Nat} {X W W' : World} (h : Below B X W) (hB : B ≤ W.heap.size) (hb : Below W.heap.size W W') : Below B X W' := h.trans (hb.mono hB)
theorem fr_alloc (W : World) (f : Fr) (A : Option Addr) (n c : Nat) : Below W.heap.size W (W.alloc (.cells #[.int .i64 f.rows, .int .i64 f.cols, .slice A n c, .int .i64 f.row, .int .i64 f.col] 28)) := (Below.refl _ _).alloc (Nat.le_refl _) _
set_option maxRecDepth 100000 in
set_option maxHeartbeats 4000000 in
theorem law_put (p : Pt) (v : Value) (w : World) (h : PtAt w v p) (hT : WTabs w) (hB : BTab w) :
    Calls Tryd.prog 3 #[v] w fun e w' => e = .returned (.bool true) ∧ Below w.heap.size w w' := by
  by_cases hg : decide (60 < p.ink.length) = true
  · exact great_shown_put p v w h hT hB hg
  have HG := hide (show decide (60 < p.ink.length) = false by simpa using hg)
  have hl := hide (show p.ink.length ≤ 60 by simpa using hg)
  have HP := hide h
  have HT := hide (And.intro hT hB)
  obtain ⟨A, N, cap, rfl, hN, hc, hcap⟩ := pt_form h
  have HRow := hide (show RowOf w 7 ikCells A p.ink by obtain ⟨A', c', e, -, -, hr⟩ := h; unfold ptV at e; injection e with e; simp at e; rw [e.1]; exact hr)
  have HN := hide hN
  have hN6 : N ≤ 60 := by rw [hN]; exact hl.out
  clear h hT hB hg hN
  have HA := hide ((Below.refl w.heap.size w).alloc (Nat.le_refl _) (.cells #[.int .i64 p.rows, .int .i64 p.cols, .slice A N cap, .int .i64 p.row, .int .i64 p.col] 24))
  have HK := hide (Blk.new w 24 (ptCells p A N cap))
  go_enter Tryd.func3, Tryd.ntmps3
  go_wp2_with fail
  refine (great_is p false HG.out _ _ (HP.out.below HA.out)).mono ?_
  rintro e w1 ⟨rfl, hb1⟩
  have HA1 := hide (below_next HA.out hb1)
  have HK1 := hide (HK.out.below hb1)
  obtain ⟨k0, k1, k2, k3, k4⟩ := pt_reads HK1.out
  clear hb1 HA HK
  go_wp2_with fail
  refine (new_frame p.rows p.cols _ (tabs_below HT.out HA1.out).2).mono ?_
  rintro e w2 ⟨v2, rfl, hown, hb2⟩
  obtain ⟨f0, hf0⟩ : ∃ f, newF p.rows p.cols = f := ⟨_, rfl⟩
  obtain ⟨e0, he0⟩ : ∃ e, newE p.rows p.cols = e := ⟨_, rfl⟩
  rw [hf0] at hown
  rw [he0]
  have HF0 := hide hf0
  have HE0 := hide he0
  clear hf0 he0
  obtain ⟨A0, n0, c0, rfl, -, -, -⟩ := hown.at.form
  have HBx := hide hown.at.box
  have hba := below_next hb2 (fr_alloc w2 f0 A0 n0 c0)
  have HA2 := hide (below_next HA1.out hba)
  have HK2 := hide (HK1.out.below hba)
  have hzD := (HK1.out.below hb2).lt
  clear hb2 hba hown k0 k1 k2 k3 k4 HA1 HK1
  obtain ⟨k0, k1, k2, k3, k4⟩ := pt_reads HK2.out
  go_wp2_with fail
  obtain ⟨D, hD⟩ : ∃ D, w2.heap.size = D := ⟨_, rfl⟩
  rw [hD] at HBx hzD ⊢
  clear hD
  refine (rnew_frame p.rows p.cols _).mono ?_
  rintro e w3 ⟨v3, rfl, hown, hb3⟩
  rw [HF0.out] at hown
  rw [HE0.out]
  obtain ⟨A1, n1, c1, rfl, -, -, -⟩ := hown.at.form
  have HBy := hide hown.at.box
  have hba := below_next hb3 (fr_alloc w3 f0 A1 n1 c1)
  have HA3 := hide (below_next HA2.out hba)
  have HK3 := hide (HK2.out.below hba)
  have HBx3 := hide (HBx.out.below hba)
  clear hb3 hba hown k0 k1 k2 k3 k4 HA2 HK2 HBx
  obtain ⟨x0, x1, x2, x3, x4⟩ := HBx3.out.reads
  have hxl := HBx3.out.lt
  go_wp2_with fail
  refine (same_is f0 f0 true (decide_eq_true rfl) _ _ _ HBx3.out.2 HBy.out.2).mono ?_
  rintro e w4 ⟨rfl, hb4⟩
  have HA4 := hide (below_next HA3.out hb4)
  have HK4 := hide (HK3.out.below hb4)
  have HBx4 := hide (HBx3.out.below hb4)
  have HBy4 := hide (HBy.out.below hb4)
  clear hb4 x0 x1 x2 x3 x4 hxl HA3 HK3 HBx3 HBy
  obtain ⟨x0, x1, x2, x3, x4⟩ := HBx4.out.reads
  obtain ⟨y0, y1, y2, y3, y4⟩ := HBy4.out.reads
  go_wp2_with fail
  refine (rsame_is f0 f0 true (decide_eq_true rfl) _ _ _ HBx4.out.2 HBy4.out.2).mono ?_
  rintro e w5 ⟨rfl, hb5⟩
  have HA5 := hide (below_next HA4.out hb5)
  have HK5 := hide (HK4.out.below hb5)
  have HBx5 := hide (HBx4.out.below hb5)
  clear hb5 x0 x1 x2 x3 x4 y0 y1 y2 y3 y4 HA4 HK4 HBx4 HBy4
  obtain ⟨k0, k1, k2, k3, k4⟩ := pt_reads HK5.out
  go_wp2_with fail
  refine (frame_any p _ _ (HP.out.below HA5.out) hl.out).mono ?_
  rintro e w6 ⟨v6, rfl, hown, hb6⟩
  obtain ⟨f, hf⟩ : ∃ f, paintF p = f := ⟨_, rfl⟩
  have HV := hide (show validF f = true by rw [← hf]; exact paintF_valid p)
  rw [hf] at hown
  obtain ⟨fA, fn, fc, rfl, -, -, -⟩ := hown.at.form
  have hlow := hown.low HBx5.out.lt f.rows f.cols (.slice fA fn fc) f.row f.col
  have HBf := hide ((HBx5.out.below hb6).put hlow.at)
  have HKf := hide (fr_far (HK5.out.below hb6) (show D ≠ w.heap.size by omega) f.rows f.cols (.slice fA fn fc) f.row f.col)
  have HAf := hide (fr_below (below_next HA5.out hb6) (show w.heap.size ≤ D by omega) f.rows f.cols (.slice fA fn fc) f.row f.col)
  obtain ⟨z0, z1, z2, z3, z4, zf⟩ := fr_reads (HBx5.out.below hb6).1
  clear hf hown hlow hb6 k0 k1 k2 k3 k4 HA5 HK5 HBx5
  go_wp2_with fail
  obtain ⟨X, hX⟩ : ∃ X, frSet w6 D f.rows f.cols (.slice fA fn fc) f.row f.col = X := ⟨_, rfl⟩
  rw [hX] at HBf HKf HAf
  unfold frSet at hX
  rw [hX]
  clear hX z0 z1 z2 z3 z4 zf
  go_loopw [7] (fun iv wr => ∃ (i : Nat) (f : Fr) (A' : Option Addr) (n' c' : Nat), iv = .int .i64 i ∧ i ≤ N ∧ Hid (validF f = true) ∧ Hid (BoxF wr D f A' n' c') ∧ Hid (Below D X wr)) (fun iv _ => N - (intOf iv).toNat)
  case atStart => exact ⟨0, f, fA, fn, fc, rfl, by omega, HV, HBf, hide (Below.refl _ _)⟩
  case round =>
    clear HV HBf
    obtain ⟨i, q, qA, qn, qc, rfl, hi, HV, HBf, HB⟩ := hrel
    have HKr := hide (HKf.out.under HB.out hzD)
    have HWr := hide (HAf.out.trans (HB.out.mono (Nat.le_of_lt hzD)))
    have HTr := hide (tabs_below HT.out HWr.out)
    obtain ⟨k0, k1, k2, k3, k4⟩ := pt_reads HKr.out
    by_cases hlt : i < N
    case neg =>
      obtain rfl : i = N := by omega
      go_wp2_with fail
      refine (shown_any _ HTr.out.1 HTr.out.2).mono ?_
      rintro e w9 ⟨rfl, hb9⟩
      have HA9 := hide (below_next HWr.out hb9)
      clear hb9
      go_wp2_with fail
      go_ret
      exact ⟨rfl, HA9.out⟩
    obtain ⟨x, hx⟩ : ∃ x, p.ink[i]? = some x := ⟨_, List.getElem?_eq_getElem (by rw [← HN.out]; exact hlt)⟩
    obtain ⟨bb, oo, rfl, hbl, j0, j1, j2, j3, j4, j5, j6⟩ := ikAt_get (HRow.out.below HWr.out) hx
    obtain ⟨f0, f1, f2, f3, f4⟩ := HBf.out.reads
    obtain ⟨x0, x1, r, fg, bo, un, iv⟩ := x
    dsimp only at j0 j1 j2 j3 j4 j5 j6
    have hfl := HBf.out.lt
    have hkl := HKr.out.lt
    clear hx
    go_wp2_with fail
    have HI := hide (show ikBox (wr.alloc (.cells #[.int .i64 x0, .int .i64 x1, .int .i32 r, .int .i64 fg, .bool bo, .bool un, .bool iv] 37)) wr.heap.size ⟨x0, x1, r, fg, bo, un, iv⟩ from Blk.new wr _ _)
    have hba := (Below.refl wr.heap.size wr).alloc (Nat.le_refl _) (.cells #[.int .i64 x0, .int .i64 x1, .int .i32 r, .int .i64 fg, .bool bo, .bool un, .bool iv] 37)
    have HBf1 := hide (HBf.out.below hba)
    have HB1 := hide (below_on HB.out (Nat.le_of_lt HBf.out.lt) hba)
    have HT1 := hide (tabs_below HTr.out hba)
    obtain ⟨z, hz⟩ : ∃ z, wr.heap.size = z := ⟨_, rfl⟩
    rw [hz] at HI hfl hkl ⊢
    clear hz hba f0 f1 f2 f3 f4 k0 k1 k2 k3 k4 j0 j1 j2 j3 j4 j5 j6 hbl
    have HSZ := hide (show 0 < q.cs.length ∧ q.cs.length ≤ 20000 from (valid_bd HV.out).2.2.2.2)
    refine (rcopy_any q _ _ HBf1.out.2 HSZ.out.1 HSZ.out.2).mono ?_
    rintro e w7 ⟨v7, rfl, hown, hb7⟩
    obtain ⟨wA, wn, wc, rfl, -, -, -⟩ := hown.at.form
    have HW1 := hide hown.at.box
    have hba := below_next hb7 (fr_alloc w7 q wA wn wc)
    have HI2 := hide (HI.out.below hba)
    have HBf2 := hide (HBf1.out.below hba)
    have HB2 := hide (below_on HB1.out (Nat.le_of_lt HBf1.out.lt) hba)
    have HT2 := hide (tabs_below HT1.out hba)
    clear hba hb7 hown HI HBf1 HB1 HT1
    obtain ⟨i0, i1, i2, i3, i4, i5, i6⟩ := HI2.out.reads
    obtain ⟨f0, f1, f2, f3, f4⟩ := HBf2.out.reads
    dsimp only at i0 i1 i2 i3 i4 i5 i6
    have hil := HI2.out.lt
    go_wp2_with fail
    obtain ⟨y, hy⟩ : ∃ y, w7.heap.size = y := ⟨_, rfl⟩
    rw [hy] at HW1 ⊢
    clear hy
    refine (put_frame q _ x0 x1 ⟨r, 0, fg, bo, un, iv⟩ _ HBf2.out.2 HT2.out.1 HT2.out.2).mono ?_
    rintro e w8 ⟨v8, rfl, hown, hb8⟩
    obtain ⟨g, hg⟩ : ∃ g, putF q x0 x1 ⟨r, 0, fg, bo, un, iv⟩ = g := ⟨_, rfl⟩
    have HVg := hide (show validF g = true by rw [← hg]; exact putF_valid HV.out _ _ _)
    rw [hg] at hown
    have HG := hide hg
    clear hg
    obtain ⟨aA, an, ac, rfl, -, -, -⟩ := hown.at.form
    have HA1 := hide hown.at.box
    have hba := below_next hb8 (fr_alloc w8 g aA an ac)
    have HI3 := hide (HI2.out.below hba)
    have HW3 := hide (HW1.out.below hba)
    have HBf3 := hide (HBf2.out.below hba)
    have HB3 := hide (below_on HB2.out (Nat.le_of_lt HBf2.out.lt) hba)
    have HT3 := hide (tabs_below HT2.out hba)
    clear hba hb8 hown HI2 HBf2 HB2 HT2 HW1 i0 i1 i2 i3 i4 i5 i6 f0 f1 f2 f3 f4 hil
    obtain ⟨i0, i1, i2, i3, i4, i5, i6⟩ := HI3.out.reads
    obtain ⟨u0, u1, u2, u3, u4⟩ := HW3.out.reads
    dsimp only at i0 i1 i2 i3 i4 i5 i6
    have hil := HI3.out.lt
    go_wp2_with fail
    obtain ⟨a, ha⟩ : ∃ a, w8.heap.size = a := ⟨_, rfl⟩
    rw [ha] at HA1 ⊢
    clear ha
    refine (rput_frame q _ x0 x1 ⟨r, 0, fg, bo, un, iv⟩ _ HW3.out.2).mono ?_
    rintro e w9 ⟨v9, rfl, hown, hb9⟩
    rw [HG.out] at hown
    obtain ⟨bA, bn, bc, rfl, -, -, -⟩ := hown.at.form
    have HY1 := hide hown.at.box
    have hba := below_next hb9 (fr_alloc w9 g bA bn bc)
    have HOW := hide ((hown.mono (show D + 1 ≤ _ from HBf3.out.lt)).below (fr_alloc w9 g bA bn bc))
    have HA4 := hide (HA1.out.below hba)
    have HW4 := hide (HW3.out.below hba)
    have HBf4 := hide (HBf3.out.below hba)
    have HB4 := hide (below_on HB3.out (Nat.le_of_lt HBf3.out.lt) hba)
    have HT4 := hide (tabs_below HT3.out hba)
    clear hba hb9 hown HI3 HBf3 HB3 HT3 HA1 HW3 i0 i1 i2 i3 i4 i5 i6 u0 u1 u2 u3 u4 hil
    go_wp2_with fail
    obtain ⟨b, hb⟩ : ∃ b, w9.heap.size = b := ⟨_, rfl⟩
    obtain ⟨Z, hZ⟩ : ∃ Z, w9.alloc (.cells #[.int .i64 g.rows, .int .i64 g.cols, .slice bA bn bc, .int .i64 g.row, .int .i64 g.col] 28) = Z := ⟨_, rfl⟩
    rw [hb, hZ] at HY1
    rw [hZ] at HA4 HW4 HBf4 HB4 HT4 HOW ⊢
    rw [hb]
    have HBf5 := hide (show BoxF Z D q qA qn qc from HBf4.out)
    have HW5 := hide (show BoxF Z y q wA wn wc from HW4.out)
    have HA5 := hide (show BoxF Z a g aA an ac from HA4.out)
    have HY5 := hide (show BoxF Z b g bA bn bc from HY1.out)
    have HT5 := hide (show WTabs Z ∧ BTab Z from HT4.out)
    obtain ⟨d, hd⟩ : ∃ d, diffF q g = d := ⟨_, rfl⟩
    have HDF := hide hd
    clear hb hZ HBf4 HW4 HA4 HY1 HT4 hd
    have HS := hide (show ∀ W, Below Z.heap.size Z W → ((W.cell? ⟨D, 0, none⟩ = some (.int .i64 q.rows) ∧ W.cell? ⟨D, 1, none⟩ = some (.int .i64 q.cols) ∧ W.cell? ⟨D, 2, none⟩ = some (.slice qA qn qc) ∧ W.cell? ⟨D, 3, none⟩ = some (.int .i64 q.row) ∧ W.cell? ⟨D, 4, none⟩ = some (.int .i64 q.col)) ∧ (W.cell? ⟨y, 0, none⟩ = some (.int .i64 q.rows) ∧ W.cell? ⟨y, 1, none⟩ = some (.int .i64 q.cols) ∧ W.cell? ⟨y, 2, none⟩ = some (.slice wA wn wc) ∧ W.cell? ⟨y, 3, none⟩ = some (.int .i64 q.row) ∧ W.cell? ⟨y, 4, none⟩ = some (.int .i64 q.col)) ∧ (W.cell? ⟨a, 0, none⟩ = some (.int .i64 g.rows) ∧ W.cell? ⟨a, 1, none⟩ = some (.int .i64 g.cols) ∧ W.cell? ⟨a, 2, none⟩ = some (.slice aA an ac) ∧ W.cell? ⟨a, 3, none⟩ = some (.int .i64 g.row) ∧ W.cell? ⟨a, 4, none⟩ = some (.int .i64 g.col)) ∧ (W.cell? ⟨b, 0, none⟩ = some (.int .i64 g.rows) ∧ W.cell? ⟨b, 1, none⟩ = some (.int .i64 g.cols) ∧ W.cell? ⟨b, 2, none⟩ = some (.slice bA bn bc) ∧ W.cell? ⟨b, 3, none⟩ = some (.int .i64 g.row) ∧ W.cell? ⟨b, 4, none⟩ = some (.int .i64 g.col))) from fun W hW => ⟨(HBf5.out.below hW).reads, (HW5.out.below hW).reads, (HA5.out.below hW).reads, (HY5.out.below hW).reads⟩)
    have HX := hide (show Below Z.heap.size Z Z.drew from (Below.refl _ _).drew)
    have TK1 : True := trivial
    go_region_held3 (fun W => (W.cell? ⟨D, 0, none⟩ = some (.int .i64 q.rows) ∧ W.cell? ⟨D, 1, none⟩ = some (.int .i64 q.cols) ∧ W.cell? ⟨D, 2, none⟩ = some (.slice qA qn qc) ∧ W.cell? ⟨D, 3, none⟩ = some (.int .i64 q.row) ∧ W.cell? ⟨D, 4, none⟩ = some (.int .i64 q.col)) ∧ (W.cell? ⟨y, 0, none⟩ = some (.int .i64 q.rows) ∧ W.cell? ⟨y, 1, none⟩ = some (.int .i64 q.cols) ∧ W.cell? ⟨y, 2, none⟩ = some (.slice wA wn wc) ∧ W.cell? ⟨y, 3, none⟩ = some (.int .i64 q.row) ∧ W.cell? ⟨y, 4, none⟩ = some (.int .i64 q.col)) ∧ (W.cell? ⟨a, 0, none⟩ = some (.int .i64 g.rows) ∧ W.cell? ⟨a, 1, none⟩ = some (.int .i64 g.cols) ∧ W.cell? ⟨a, 2, none⟩ = some (.slice aA an ac) ∧ W.cell? ⟨a, 3, none⟩ = some (.int .i64 g.row) ∧ W.cell? ⟨a, 4, none⟩ = some (.int .i64 g.col)) ∧ (W.cell? ⟨b, 0, none⟩ = some (.int .i64 g.rows) ∧ W.cell? ⟨b, 1, none⟩ = some (.int .i64 g.cols) ∧ W.cell? ⟨b, 2, none⟩ = some (.slice bA bn bc) ∧ W.cell? ⟨b, 3, none⟩ = some (.int .i64 g.row) ∧ W.cell? ⟨b, 4, none⟩ = some (.int .i64 g.col)))
      (exact HS.out _ HX.out)
      (first
        | (go_at_call 14; have tk := TK1; refine (rsame_is g g true (decide_eq_true rfl) _ _ _ (HA5.out.2.below HX.out) (HY5.out.2.below HX.out)).mono ?_; rintro e w21 ⟨rfl, hb1⟩; replace HX := hide (below_next HX.out hb1); clear hb1; clear TK1 tk; have TK2 : True := trivial)
        | (go_at_call 14; have tk := TK2; refine (rsame_is q q true (decide_eq_true rfl) _ _ _ (HBf5.out.2.below HX.out) (HW5.out.2.below HX.out)).mono ?_; rintro e w22 ⟨rfl, hb2⟩; replace HX := hide (below_next HX.out hb2); clear hb2; clear TK2 tk; have TK3 : True := trivial)
        | (go_at_call 20; have tk := TK3; refine (rows_any g _ _ (HA5.out.2.below HX.out) (tabs_below HT5.out HX.out).1).mono ?_; rintro e w23 ⟨s3, rfl, hos, hb3⟩; have HS3 := hide (hos.reads (rowsF_le _)); clear hos; replace HX := hide (below_next HX.out hb3); clear hb3; clear TK3 tk; have TK4 : True := trivial)
        | (go_at_call 21; have tk := TK4; refine (rrows_any g _ _ (HY5.out.2.below HX.out)).mono ?_; rintro e w24 ⟨s4, rfl, hos, hb4⟩; have HS4 := hide (hos.reads (rowsF_le _)); replace HS3 := hide (HS3.out.below hb4); clear hos; replace HX := hide (below_next HX.out hb4); clear hb4; clear TK4 tk; have TK5 : True := trivial)
        | (go_at_call 19; have tk := TK5; refine (strings_same (rowsF g) _ _ _ HS3.out HS4.out).mono ?_; rintro e w25 ⟨rfl, hb5⟩; clear HS3 HS4; replace HX := hide (below_next HX.out hb5); clear hb5; clear TK5 tk; have TK6 : True := trivial)
        | (go_at_call 22; have tk := TK6; refine (diff_is q g d HDF.out _ _ _ (HBf5.out.2.below HX.out) (HA5.out.2.below HX.out) (tabs_below HT5.out HX.out).1).mono ?_; rintro e w26 ⟨rfl, hb6⟩; replace HX := hide (below_next HX.out hb6); clear hb6; clear TK6 tk; have TK7 : True := trivial)
        | (go_at_call 23; have tk := TK7; refine (rdiff_is q g d HDF.out _ _ _ (HBf5.out.2.below HX.out) (HY5.out.2.below HX.out)).mono ?_; rintro e w27 ⟨rfl, hb7⟩; replace HX := hide (below_next HX.out hb7); clear hb7; clear TK7 tk; have TK8 : True := trivial)
        | fail)
    obtain ⟨-, -, -, -, -, zf⟩ := fr_reads (HBf5.out.below HX.out).1
    all_goals go_wp2_with fail
    have HBE := hide ((HBf5.out.below HX.out).put ((HOW.out.below HX.out).low (Nat.lt_succ_self D) g.rows g.cols (.slice bA bn bc) g.row g.col).at)
    have HXE := hide (fr_below (below_on HB4.out (Nat.le_of_lt HBf5.out.lt) HX.out) (Nat.le_refl D) g.rows g.cols (.slice bA bn bc) g.row g.col)
    unfold frSet at HBE HXE
    go_roundw
    case rel => exact ⟨i + 1, g, bA, bn, bc, by go_num, by omega, HVg, HBE, HXE⟩
    case measure => simp [intOf]; omega
end Go.Proofs.YtojjdckpbmjjdaaDoor
