/- Walk of the law GridsSame. -/
import Derived.Test.YtojjdckpbmjjdaaDoorGlput
import Derived.Deep.DeepCutAuto
import Derived.Deep.CutBlock
namespace Go.Proofs.YtojjdckpbmjjdaaDoor
open Go.RowKit

def pc (p : Pt) (A : Option Addr) (n c : Nat) : Obj := .cells #[.int .i64 p.rows, .int .i64 p.cols, .slice A n c, .int .i64 p.row, .int .i64 p.col] 24
theorem size_set (W : World) (p : Addr) (v : Value) : (W.setCell p v).heap.size = W.heap.size := by simp [World.setCell]
theorem blk_by {W W' : World} (hb : Hid (Below W.heap.size W W')) {b : Nat} {t : TypeId} {cs : List Value} (h : Blk W b t cs) : Blk W' b t cs := h.below hb.out
theorem own_by {W W' : World} (hb : Hid (Below W.heap.size W W')) {B : Nat} {v : Value} {L : List Cl} (h : OwnC W B v L) : OwnC W' B v L := h.below hb.out
theorem own_mono1 {W : World} {B C : Nat} {v : Value} {L : List Cl} (h : Hid (OwnC W B v L)) (hz : C ≤ B) : OwnC W C v L := h.out.mono hz
theorem fr_newAt {W : World} {z : Nat} {a b c d : Int} {s : Value} (e : W.heap.size = z) : Blk (W.alloc (.cells #[.int .i64 a, .int .i64 b, s, .int .i64 c, .int .i64 d] 28)) z 28 (frCells a b s c d) := by subst e; exact Blk.new W _ _
theorem fr_put5 {W : World} {z : Nat} {a b c d a' b' c' d' : Int} {s s' : Value} (h : Blk W z 28 (frCells a b s c d)) : Blk (((((W.setCell ⟨z, 0, none⟩ (.int .i64 a')).setCell ⟨z, 1, none⟩ (.int .i64 b')).setCell ⟨z, 2, none⟩ s').setCell ⟨z, 3, none⟩ (.int .i64 c')).setCell ⟨z, 4, none⟩ (.int .i64 d')) z 28 (frCells a' b' s' c' d') := fr_put h a' b' s' c' d'
theorem blk_far1 {W : World} {k z o : Nat} {t : TypeId} {cs : List Value} {v : Value} (h : Blk W k t cs) (hz : z ≠ k) : Blk (W.setCell ⟨z, o, none⟩ v) k t cs := h.far (p := ⟨z, o, none⟩) hz v
theorem own_off1 {W : World} {B g n c z o : Nat} {L : List Cl} {v : Value} (h : OwnC W B (.slice (some ⟨g, 0, none⟩) n c) L) (hz : z ≠ g) : OwnC (W.setCell ⟨z, o, none⟩ v) B (.slice (some ⟨g, 0, none⟩) n c) L := h.off (p := ⟨z, o, none⟩) hz v
theorem set_below {X W : World} (h : Below X.heap.size X W) {z o : Nat} (hz : X.heap.size ≤ z) (v : Value) : Below X.heap.size X (W.setCell ⟨z, o, none⟩ v) := h.setCell (p := ⟨z, o, none⟩) hz v
theorem bcell {W w1 : World} (hb : Below W.heap.size W w1) : (∀ b o, b < W.heap.size → w1.cell? ⟨b, o, none⟩ = W.cell? ⟨b, o, none⟩) ∧ (∀ b o, b < W.heap.size → w1.frozen? ⟨b, o, none⟩ = W.frozen? ⟨b, o, none⟩) :=
  ⟨fun b o h => hb.cell (p := ⟨b, o, none⟩) h, fun b o h => hb.frozen (p := ⟨b, o, none⟩) h⟩
theorem size_drew (W : World) : W.drew.heap.size = W.heap.size := rfl
theorem FrOwn.openV {W : World} {B : Nat} {v : Value} {f : Fr} (h : FrOwn W B v f) (hv : validF f = true) : ∃ g n c, v = .agg #[.int .i64 f.rows, .int .i64 f.cols, .slice (some ⟨g, 0, none⟩) n c, .int .i64 f.row, .int .i64 f.col] ∧ OwnC W B (.slice (some ⟨g, 0, none⟩) n c) f.cs ∧ (n = f.cs.length ∧ c ≤ maxLen) ∧ B ≤ g ∧ g < W.heap.size := by
  have hl := (valid_bd hv).2.2.2.2.1
  obtain ⟨a, b, cs, r, c⟩ := f
  obtain ⟨g, cap, rfl, h1, h2, h3⟩ := h.open rfl hl
  exact ⟨g, _, cap, rfl, h2, ⟨rfl, h1⟩, h3, h2.inb⟩
theorem own_at {W : World} {B n c : Nat} {A : Option Addr} {f : Fr} (h : OwnC W B (.slice A n c) f.cs) (hn : n = f.cs.length ∧ c ≤ maxLen) : FrAt W (.agg #[.int .i64 f.rows, .int .i64 f.cols, .slice A n c, .int .i64 f.row, .int .i64 f.col]) f := by
  obtain ⟨rfl, hc⟩ := hn
  exact FrOwn.at ⟨A, c, rfl, hc, h⟩
theorem OwnC.allocO {W : World} {B : Nat} {v : Value} {L : List Cl} (h : OwnC W B v L) (o : Obj) : OwnC (W.alloc o) B v L := h.below ((Below.refl _ _).alloc (Nat.le_refl _) o)
theorem diff_eq (f g : Fr) : diffF f g = diffF f g := rfl
set_option maxRecDepth 100000 in
set_option maxHeartbeats 4000000 in
theorem great_same1 (p q : Pt) (v u : Value) (w : World) (h : PtAt w v p) (h' : PtAt w u q) (hT : WTabs w) (hB : BTab w) (hg : decide (60 < p.ink.length) = true) :
    Calls Tryd.prog 8 #[v, u] w fun e w' => e = .returned (.bool true) ∧ Below w.heap.size w w' := by
  have HG := hide hg
  have HP := hide h
  have HQ := hide h'
  have HT := hide (And.intro hT hB)
  obtain ⟨A, n, cap, rfl, -, -, -⟩ := pt_form h
  obtain ⟨C, m, cbp, rfl, -, -, -⟩ := pt_form h'
  clear h h' hT hB hg
  have HA := hide (((Below.refl w.heap.size w).alloc (Nat.le_refl _) (.cells #[.int .i64 p.rows, .int .i64 p.cols, .slice A n cap, .int .i64 p.row, .int .i64 p.col] 24)).alloc (by simp) (.cells #[.int .i64 q.rows, .int .i64 q.cols, .slice C m cbp, .int .i64 q.row, .int .i64 q.col] 24))
  have HK := hide (Blk.newAt (W := w.alloc (.cells #[.int .i64 p.rows, .int .i64 p.cols, .slice A n cap, .int .i64 p.row, .int .i64 p.col] 24)) (t := 24) (cs := ptCells q C m cbp) (World.size_alloc _ _))
  go_enter Tryd.func8, Tryd.ntmps8
  go_wp2_with fail
  refine (great_is p true HG.out _ _ (HP.out.below HA.out)).mono ?_
  rintro e w1 ⟨rfl, hb1⟩
  have HA1 := hide (below_next HA.out hb1)
  clear hb1
  go_wp2_with fail
  refine (shown_any _ (tabs_below HT.out HA1.out).1 (tabs_below HT.out HA1.out).2).mono ?_
  rintro e w2 ⟨rfl, hb2⟩
  have HA2 := hide (below_next HA1.out hb2)
  clear hb2
  go_wp2_with fail
  go_ret
  exact ⟨rfl, HA2.out⟩
set_option maxRecDepth 100000 in
set_option maxHeartbeats 4000000 in
theorem great_same2 (p q : Pt) (v u : Value) (w : World) (h : PtAt w v p) (h' : PtAt w u q) (hT : WTabs w) (hB : BTab w) (hg : decide (60 < p.ink.length) = false) (hg2 : decide (60 < q.ink.length) = true) :
    Calls Tryd.prog 8 #[v, u] w fun e w' => e = .returned (.bool true) ∧ Below w.heap.size w w' := by
  have HG := hide hg
  have HG2 := hide hg2
  clear hg2
  have HP := hide h
  have HQ := hide h'
  have HT := hide (And.intro hT hB)
  obtain ⟨A, n, cap, rfl, -, -, -⟩ := pt_form h
  obtain ⟨C, m, cbp, rfl, -, -, -⟩ := pt_form h'
  clear h h' hT hB hg
  have HA := hide (((Below.refl w.heap.size w).alloc (Nat.le_refl _) (.cells #[.int .i64 p.rows, .int .i64 p.cols, .slice A n cap, .int .i64 p.row, .int .i64 p.col] 24)).alloc (by simp) (.cells #[.int .i64 q.rows, .int .i64 q.cols, .slice C m cbp, .int .i64 q.row, .int .i64 q.col] 24))
  have HK := hide (Blk.newAt (W := w.alloc (.cells #[.int .i64 p.rows, .int .i64 p.cols, .slice A n cap, .int .i64 p.row, .int .i64 p.col] 24)) (t := 24) (cs := ptCells q C m cbp) (World.size_alloc _ _))
  go_enter Tryd.func8, Tryd.ntmps8
  go_wp2_with fail
  refine (great_is p false HG.out _ _ (HP.out.below HA.out)).mono ?_
  rintro e w1 ⟨rfl, hb1⟩
  have HA1 := hide (below_next HA.out hb1)
  have HK1 := hide (HK.out.below hb1)
  clear hb1
  obtain ⟨k0, k1, k2, k3, k4⟩ := pt_reads HK1.out
  go_wp2_with fail
  refine (great_is q true HG2.out _ _ (HQ.out.below HA1.out)).mono ?_
  rintro e w1 ⟨rfl, hb1⟩
  replace HA1 := hide (below_next HA1.out hb1)
  clear hb1 k0 k1 k2 k3 k4
  go_wp2_with fail
  refine (shown_any _ (tabs_below HT.out HA1.out).1 (tabs_below HT.out HA1.out).2).mono ?_
  rintro e w2 ⟨rfl, hb2⟩
  have HA2 := hide (below_next HA1.out hb2)
  clear hb2
  go_wp2_with fail
  go_ret
  exact ⟨rfl, HA2.out⟩
set_option maxRecDepth 100000 in
set_option maxHeartbeats 4000000 in
theorem law_same (p q : Pt) (v u : Value) (w : World) (h : PtAt w v p) (h' : PtAt w u q) (hT : WTabs w) (hB : BTab w) :
    Calls Tryd.prog 8 #[v, u] w fun e w' => e = .returned (.bool true) ∧ Below w.heap.size w w' := by
  by_cases hg : decide (60 < p.ink.length) = true
  · exact great_same1 p q v u w h h' hT hB hg
  have hg1 : decide (60 < p.ink.length) = false := by simpa using hg
  by_cases hg2 : decide (60 < q.ink.length) = true
  · exact great_same2 p q v u w h h' hT hB hg1 hg2
  have HG := hide hg1
  have HG2 := hide (show decide (60 < q.ink.length) = false by simpa using hg2)
  have hl := hide (show p.ink.length ≤ 60 by simpa using hg)
  have hl2 := hide (show q.ink.length ≤ 60 by simpa using hg2)
  have HP := hide h
  have HQ := hide h'
  have HT := hide (And.intro hT hB)
  obtain ⟨A, n, cap, rfl, hn, hnc, hcm⟩ := pt_form h
  obtain ⟨C, m, cbp, rfl, hm, hmc, hbm⟩ := pt_form h'
  obtain ⟨q', hq'⟩ : ∃ q' : Pt, { q with rows := p.rows, cols := p.cols } = q' := ⟨_, rfl⟩
  have HQ2 := hide (show PtAt w (.agg #[.int .i64 p.rows, .int .i64 p.cols, .slice C m cbp, .int .i64 q.row, .int .i64 q.col]) q' by
    obtain ⟨A', c', e, h1, h2, h3⟩ := h'
    unfold ptV at e
    injection e with e
    simp at e
    obtain ⟨rfl, -, rfl⟩ := e
    subst hq'
    exact ⟨_, _, by subst hm; rfl, h1, h2, h3⟩)
  have hlq := hide (show q'.ink.length ≤ 60 by rw [← hq']; exact hl2.out)
  clear h h' hT hB hg hg1 hg2 hn hm hnc hmc hcm hbm
  have HA := hide (((Below.refl w.heap.size w).alloc (Nat.le_refl _) (.cells #[.int .i64 p.rows, .int .i64 p.cols, .slice A n cap, .int .i64 p.row, .int .i64 p.col] 24)).alloc (by simp) (.cells #[.int .i64 q.rows, .int .i64 q.cols, .slice C m cbp, .int .i64 q.row, .int .i64 q.col] 24))
  have HK := hide (Blk.newAt (W := w.alloc (.cells #[.int .i64 p.rows, .int .i64 p.cols, .slice A n cap, .int .i64 p.row, .int .i64 p.col] 24)) (t := 24) (cs := ptCells q C m cbp) (World.size_alloc _ _))
  have HJ := hide ((Blk.new w 24 (ptCells p A n cap)).alloc (.cells #[.int .i64 q.rows, .int .i64 q.cols, .slice C m cbp, .int .i64 q.row, .int .i64 q.col] 24))
  go_enter Tryd.func8, Tryd.ntmps8
  go_wp2_with fail
  refine (great_is p false HG.out _ _ (HP.out.below HA.out)).mono ?_
  rintro e w1 ⟨rfl, hb1⟩
  have HA1 := hide (below_next HA.out hb1)
  have HK1 := hide (HK.out.below hb1)
  have HJ1 := hide (HJ.out.below hb1)
  clear hb1 HA HK HJ
  obtain ⟨k0, k1, k2, k3, k4⟩ := pt_reads HK1.out
  go_wp2_with fail
  refine (great_is q false HG2.out _ _ (HQ.out.below HA1.out)).mono ?_
  rintro e w2 ⟨rfl, hb2⟩
  have HA2 := hide (below_next HA1.out hb2)
  have HK2 := hide (HK1.out.below hb2)
  have HJ2 := hide (HJ1.out.below hb2)
  clear hb2 k0 k1 k2 k3 k4 HA1 HK1 HJ1
  obtain ⟨k0, k1, k2, k3, k4⟩ := pt_reads HK2.out
  obtain ⟨j0, j1, j2, j3, j4⟩ := pt_reads HJ2.out
  have zf := HK2.out.frozen
  go_wp2_with fail
  go_region
  all_goals go_wp2_with fail
  obtain ⟨Y, hY⟩ : ∃ Y, (w2.setCell ⟨w.heap.size + 1, 0, none⟩ (.int .i64 p.rows)).setCell ⟨w.heap.size + 1, 1, none⟩ (.int .i64 p.cols) = Y := ⟨_, rfl⟩
  have HKY := hide (show Blk Y (w.heap.size + 1) 24 [.int .i64 p.rows, .int .i64 p.cols, .slice C m cbp, .int .i64 q.row, .int .i64 q.col] by rw [← hY]; exact (HK2.out.set 0 _).set 1 _)
  have HJY := hide (show Blk Y w.heap.size 24 (ptCells p A n cap) by rw [← hY]; exact (HJ2.out.far (p := ⟨w.heap.size + 1, 0, none⟩) (by simp) _).far (p := ⟨w.heap.size + 1, 1, none⟩) (by simp) _)
  have HAY := hide (show Below w.heap.size w Y by rw [← hY]; exact (HA2.out.setCell (p := ⟨w.heap.size + 1, 0, none⟩) (Nat.le_succ _) _).setCell (p := ⟨w.heap.size + 1, 1, none⟩) (Nat.le_succ _) _)
  rw [hY]
  clear hY k0 k1 k2 k3 k4 j0 j1 j2 j3 j4 zf HA2 HK2 HJ2
  obtain ⟨f, hf⟩ : ∃ f, paintF p = f := ⟨_, rfl⟩
  obtain ⟨g, hg⟩ : ∃ f, paintF q' = f := ⟨_, rfl⟩
  have HVf := hide (show validF f = true by rw [← hf]; exact paintF_valid p)
  have HVg := hide (show validF g = true by rw [← hg]; exact paintF_valid q')
  have HSZ := hide (show f.rows = g.rows ∧ f.cols = g.cols by rw [← hf, ← hg, (paintF_size p).1, (paintF_size p).2, (paintF_size q').1, (paintF_size q').2, ← hq']; exact ⟨rfl, rfl⟩)
  have HFp := hide hf
  have HFq := hide hg
  have HPY := hide (HP.out.below HAY.out)
  have HQY := hide (HQ2.out.below HAY.out)
  have HTY := hide (tabs_below HT.out HAY.out)
  clear hf hg hq'
  go_cut [5, 6] (fun a b wx => ∃ (z1 z2 : Nat) (A1 A2 : Option Addr) (n1 c1 n2 c2 : Nat), a = .pointer (some ⟨z1, 0, none⟩) ∧ b = .pointer (some ⟨z2, 0, none⟩) ∧ Hid (BoxF wx z1 f A1 n1 c1) ∧ Hid (BoxF wx z2 g A2 n2 c2) ∧ Hid (Below Y.heap.size Y wx))
  case first =>
    have HS := hide (show ∀ W, Below Y.heap.size Y W → ((W.cell? ⟨w.heap.size, 0, none⟩ = some (.int .i64 p.rows) ∧ W.cell? ⟨w.heap.size, 1, none⟩ = some (.int .i64 p.cols) ∧ W.cell? ⟨w.heap.size, 2, none⟩ = some (.slice A n cap) ∧ W.cell? ⟨w.heap.size, 3, none⟩ = some (.int .i64 p.row) ∧ W.cell? ⟨w.heap.size, 4, none⟩ = some (.int .i64 p.col)) ∧ (W.cell? ⟨w.heap.size + 1, 0, none⟩ = some (.int .i64 p.rows) ∧ W.cell? ⟨w.heap.size + 1, 1, none⟩ = some (.int .i64 p.cols) ∧ W.cell? ⟨w.heap.size + 1, 2, none⟩ = some (.slice C m cbp) ∧ W.cell? ⟨w.heap.size + 1, 3, none⟩ = some (.int .i64 q.row) ∧ W.cell? ⟨w.heap.size + 1, 4, none⟩ = some (.int .i64 q.col))) from fun W hW => ⟨pt_reads (HJY.out.below hW), by
      have := HKY.out.below hW
      exact ⟨this.cell (i := 0) rfl, this.cell (i := 1) rfl, this.cell (i := 2) rfl, this.cell (i := 3) rfl, this.cell (i := 4) rfl⟩⟩)
    have HX := hide (show Below Y.heap.size Y Y.drew.drew from ((Below.refl _ _).drew).drew)
    have TK1 : True := trivial
    go_region_held3 (fun W => ((W.cell? ⟨w.heap.size, 0, none⟩ = some (.int .i64 p.rows) ∧ W.cell? ⟨w.heap.size, 1, none⟩ = some (.int .i64 p.cols) ∧ W.cell? ⟨w.heap.size, 2, none⟩ = some (.slice A n cap) ∧ W.cell? ⟨w.heap.size, 3, none⟩ = some (.int .i64 p.row) ∧ W.cell? ⟨w.heap.size, 4, none⟩ = some (.int .i64 p.col)) ∧ (W.cell? ⟨w.heap.size + 1, 0, none⟩ = some (.int .i64 p.rows) ∧ W.cell? ⟨w.heap.size + 1, 1, none⟩ = some (.int .i64 p.cols) ∧ W.cell? ⟨w.heap.size + 1, 2, none⟩ = some (.slice C m cbp) ∧ W.cell? ⟨w.heap.size + 1, 3, none⟩ = some (.int .i64 q.row) ∧ W.cell? ⟨w.heap.size + 1, 4, none⟩ = some (.int .i64 q.col))))
      ((refine HS.out _ ?_; (repeat' (first | (with_reducible exact HX.out) | (with_reducible exact Below.refl _ _) | (with_reducible refine alloc_below _ _ ?_ _) | (with_reducible refine set_below ?_ (by simp only [World.size_alloc, size_set, size_drew]; omega) _) | (with_reducible refine set_below ?_ (by omega) _) | (with_reducible refine Below.drew ?_)))))
      (first
        | (go_at_call 15; have tk := TK1; refine (frame_any p _ _ (by refine HPY.out.below ?_; (repeat' (first | (with_reducible exact HX.out) | (with_reducible exact Below.refl _ _) | (with_reducible refine alloc_below _ _ ?_ _) | (with_reducible refine set_below ?_ (by simp only [World.size_alloc, size_set, size_drew]; omega) _) | (with_reducible refine set_below ?_ (by omega) _) | (with_reducible refine Below.drew ?_)))) hl.out).mono ?_; rintro e x1 ⟨v1, rfl, hown, hb⟩; rw [HFp.out] at hown; obtain ⟨g1, n1, c1, rfl, how, hnn, hg1, hg2⟩ := hown.openV HVf.out; have HO1 := hide how; have HN1 := hide hnn; have HC1 := hide hb; have hs1 := hb.size; (try simp only [World.size_alloc, size_set, size_drew] at hs1); (try (have hz10 : Y.heap.size < x1.heap.size := by omega)); (try (have hz11 : Y.heap.size + 1 < x1.heap.size := by omega)); obtain ⟨hc1, hf1⟩ := bcell hb; have hgl1 := hg1; have hgu1 := hg2; replace HX := hide (below_next (X := Y) (by (repeat' (first | (with_reducible exact HX.out) | (with_reducible exact Below.refl _ _) | (with_reducible refine alloc_below _ _ ?_ _) | (with_reducible refine set_below ?_ (by simp only [World.size_alloc, size_set, size_drew]; omega) _) | (with_reducible refine set_below ?_ (by omega) _) | (with_reducible refine Below.drew ?_)))) hb); clear hown how hnn hb hg1 hg2; clear TK1 tk; have TK2 : True := trivial)
        | (go_at_call 15; have tk := TK2; refine (frame_any q' _ _ (by refine HQY.out.below ?_; (repeat' (first | (with_reducible exact HX.out) | (with_reducible exact Below.refl _ _) | (with_reducible refine alloc_below _ _ ?_ _) | (with_reducible refine set_below ?_ (by simp only [World.size_alloc, size_set, size_drew]; omega) _) | (with_reducible refine set_below ?_ (by omega) _) | (with_reducible refine Below.drew ?_)))) hlq.out).mono ?_; rintro e x2 ⟨v2, rfl, hown, hb⟩; rw [HFq.out] at hown; obtain ⟨g2, n2, c2, rfl, how, hnn, hg1, hg2⟩ := hown.openV HVg.out; have HO2 := hide how; have HN2 := hide hnn; have HC2 := hide hb; have hs2 := hb.size; (try simp only [World.size_alloc, size_set, size_drew] at hs2); (try (have hz20 : Y.heap.size < x2.heap.size := by omega)); (try (have hz21 : Y.heap.size + 1 < x2.heap.size := by omega)); (try (have hz22 : x1.heap.size < x2.heap.size := by omega)); (try (have hz23 : x1.heap.size + 1 < x2.heap.size := by omega)); obtain ⟨hc2, hf2⟩ := bcell hb; have hgl2 := hg1; have hgu2 := hg2; replace HX := hide (below_next (X := Y) (by (repeat' (first | (with_reducible exact HX.out) | (with_reducible exact Below.refl _ _) | (with_reducible refine alloc_below _ _ ?_ _) | (with_reducible refine set_below ?_ (by simp only [World.size_alloc, size_set, size_drew]; omega) _) | (with_reducible refine set_below ?_ (by omega) _) | (with_reducible refine Below.drew ?_)))) hb); clear hown how hnn hb hg1 hg2; clear TK2 tk; have TK3 : True := trivial)
        | fail)
    all_goals go_wp2_with fail
    all_goals go_meet
    all_goals (refine ⟨_, _, some ⟨g1, 0, none⟩, some ⟨g2, 0, none⟩, n1, c1, n2, c2, rfl, rfl, hide ⟨?_, own_at (B := Y.heap.size) ?_ HN1.out⟩, hide ⟨?_, own_at (B := Y.heap.size) ?_ HN2.out⟩, hide ?_⟩)
    all_goals clear HS hc1 hf1 hc2 hf2
    all_goals (try simp only [size_drew, World.size_alloc] at hs1 hs2 hgl1 hgu1 hgl2 hgu2)
    all_goals (repeat' (first
      | (with_reducible apply fr_newAt; simp only [World.size_alloc, size_set, size_drew]; done)
      | (with_reducible apply fr_put5)
      | (with_reducible apply blk_far1; case hz => omega)
      | (with_reducible apply Blk.alloc)
      | (with_reducible apply blk_by HC2)
      | (with_reducible apply blk_by HC1)
      | (with_reducible apply Blk.drew)
      | (with_reducible apply own_mono1 HO1; simp only [World.size_alloc, size_set, size_drew]; omega)
      | (with_reducible apply own_mono1 HO1; omega)
      | (with_reducible apply own_mono1 HO2; simp only [World.size_alloc, size_set, size_drew]; omega)
      | (with_reducible apply own_mono1 HO2; omega)
      | (with_reducible apply own_off1; case hz => omega)
      | (with_reducible apply OwnC.allocO)
      | (with_reducible apply own_by HC2)
      | (with_reducible apply own_by HC1)
      | (with_reducible apply own_drew)
      | (with_reducible apply HX.out)
      | (with_reducible apply alloc_below)
      | (with_reducible apply set_below; case hz => (first | omega | (simp only [World.size_alloc, size_set, size_drew]; omega)))))
  case rest =>
    obtain ⟨z1, z2, A1, A2, n1, c1, n2, c2, rfl, rfl, HF, HH, HB⟩ := hcut
    have HW := hide (tabs_below HTY.out HB.out)
    have HBW := hide (below_next HAY.out HB.out)
    obtain ⟨d0, d1, d2, d3⟩ := diff_same HVf.out HVg.out HSZ.out.1 HSZ.out.2
    obtain ⟨d, hd⟩ : ∃ d, diffF f g = d := ⟨_, rfl⟩
    rw [hd] at d0 d1 d3
    have HD1 := hide hd
    have HD2 := hide d1.symm
    have HD3 := hide d2
    have HD4 := hide d3
    clear hd d1 d2 d3 HB HAY HTY HKY HJY
    obtain ⟨f0, f1, f2, f3, f4⟩ := HF.out.reads
    obtain ⟨g0, g1, g2, g3, g4⟩ := HH.out.reads
    go_wp2_with fail
    refine (diff_is f g d HD1.out _ _ _ HF.out.2 HH.out.2 HW.out.1).mono ?_
    rintro e w4 ⟨rfl, hb4⟩
    have HF4 := hide (HF.out.below hb4)
    have HH4 := hide (HH.out.below hb4)
    have HW4 := hide (tabs_below HW.out hb4)
    have HB4 := hide (below_next HBW.out hb4)
    clear hb4 f0 f1 f2 f3 f4 g0 g1 g2 g3 g4 HF HH HW HBW
    obtain ⟨f0, f1, f2, f3, f4⟩ := HF4.out.reads
    obtain ⟨g0, g1, g2, g3, g4⟩ := HH4.out.reads
    go_wp2_with fail
    refine (diff_is g f d HD2.out _ _ _ HH4.out.2 HF4.out.2 HW4.out.1).mono ?_
    rintro e w5 ⟨rfl, hb5⟩
    have HF5 := hide (HF4.out.below hb5)
    have HH5 := hide (HH4.out.below hb5)
    have HW5 := hide (tabs_below HW4.out hb5)
    have HB5 := hide (below_next HB4.out hb5)
    clear hb5 f0 f1 f2 f3 f4 g0 g1 g2 g3 g4 HF4 HH4 HW4 HB4
    obtain ⟨f0, f1, f2, f3, f4⟩ := HF5.out.reads
    go_wp2_with fail
    refine (diff_is f f 0 HD3.out _ _ _ HF5.out.2 HF5.out.2 HW5.out.1).mono ?_
    rintro e w6 ⟨rfl, hb6⟩
    have HF6 := hide (HF5.out.below hb6)
    have HH6 := hide (HH5.out.below hb6)
    have HW6 := hide (tabs_below HW5.out hb6)
    have HB6 := hide (below_next HB5.out hb6)
    clear hb6 f0 f1 f2 f3 f4 HF5 HH5 HW5 HB5
    obtain ⟨f0, f1, f2, f3, f4⟩ := HF6.out.reads
    obtain ⟨g0, g1, g2, g3, g4⟩ := HH6.out.reads
    go_wp2_with fail
    have key : ∀ b : Bool, decide (f = g) = b → ∃ b1 b2 b3 : Bool, (d == 0) = b1 ∧ (f.row == g.row) = b2 ∧ (f.col == g.col) = b3 ∧ b = (b1 && b2 && b3) := fun b hb => ⟨_, _, _, rfl, rfl, rfl, by
      rw [← hb, HD4.out]
      rw [Bool.eq_iff_iff]; simp [and_assoc]⟩
    obtain ⟨b, hb⟩ : ∃ b, decide (f = g) = b := ⟨_, rfl⟩
    obtain ⟨b1, b2, b3, e1, e2, e3, e4⟩ := key b hb
    have HE := hide hb
    clear key hb
    subst e4
    refine (same_is f g (b1 && b2 && b3) HE.out _ _ _ HF6.out.2 HH6.out.2).mono ?_
    rintro e w7 ⟨rfl, hb7⟩
    have HF7 := hide (HF6.out.below hb7)
    have HH7 := hide (HH6.out.below hb7)
    have HW7 := hide (tabs_below HW6.out hb7)
    have HB7 := hide (below_next HB6.out hb7)
    clear hb7 f0 f1 f2 f3 f4 g0 g1 g2 g3 g4 HF6 HH6 HW6 HB6 HE HD1 HD2 HD3 HD4
    obtain ⟨f0, f1, f2, f3, f4⟩ := HF7.out.reads
    obtain ⟨g0, g1, g2, g3, g4⟩ := HH7.out.reads
    have HW8 := HW7.out
    clear HW8
    cases b1 <;> cases b2 <;> cases b3 <;>
      (go_wp2_with fail
       refine (shown_any _ HW7.out.1 HW7.out.2).mono ?_
       rintro e w8 ⟨rfl, hb8⟩
       have HB8 := hide (below_next HB7.out hb8)
       clear hb8
       go_wp2_with fail
       go_ret
       exact ⟨rfl, HB8.out⟩)
end Go.Proofs.YtojjdckpbmjjdaaDoor
