/- Contract of (Painted).Frame. -/
import Derived.Test.YtojjdckpbmjjdaaDoorGlaw
namespace Go.Proofs.YtojjdckpbmjjdaaDoor
open Go.RowKit

theorem fr_off {W : World} {B g n c z : Nat} {L : List Cl} (h : OwnC W B (.slice (some ⟨g, 0, none⟩) n c) L) (hz : z ≠ g) (a b : Int) (s : Value) (d e : Int) : OwnC (frSet W z a b s d e) B (.slice (some ⟨g, 0, none⟩) n c) L :=
  ((((h.off (p := ⟨z, 0, none⟩) hz _).off (p := ⟨z, 1, none⟩) hz _).off (p := ⟨z, 2, none⟩) hz _).off (p := ⟨z, 3, none⟩) hz _).off (p := ⟨z, 4, none⟩) hz _
theorem FrOwn.openF {W : World} {B n : Nat} {v : Value} {f : Fr} {a b : Int} (h : FrOwn W B v f) (ha : f.rows = a ∧ f.cols = b) (hc : f.row = 0 ∧ f.col = 0) (hn : f.cs.length = n) (h0 : 0 < n) : ∃ g cap, v = .agg #[.int .i64 a, .int .i64 b, .slice (some ⟨g, 0, none⟩) n cap, .int .i64 0, .int .i64 0] ∧ cap ≤ maxLen ∧ OwnC W B (.slice (some ⟨g, 0, none⟩) n cap) f.cs ∧ B ≤ g := by
  obtain ⟨a', b', cs, c', d'⟩ := f
  obtain ⟨rfl, rfl⟩ := ha
  obtain ⟨rfl, rfl⟩ := hc
  exact h.open hn h0
theorem fr_ownF {W : World} {B g n cap : Nat} {f : Fr} {a b : Int} (h : OwnC W B (.slice (some ⟨g, 0, none⟩) n cap) f.cs) (hcap : cap ≤ maxLen) (hn : f.cs.length = n) (ha : f.rows = a ∧ f.cols = b) (hc : f.row = 0 ∧ f.col = 0) : FrOwn W B (.agg #[.int .i64 a, .int .i64 b, .slice (some ⟨g, 0, none⟩) n cap, .int .i64 0, .int .i64 0]) f := by
  obtain ⟨a', b', cs, c', d'⟩ := f
  obtain ⟨rfl, rfl⟩ := ha
  obtain ⟨rfl, rfl⟩ := hc
  exact fr_own hn hcap h
theorem keepS {W : World} {b D : Nat} {x y r c : Int} (h : ¬ D = b) (q : Nat) (hq : 2 ≤ q) (v : Value) (hs : W.cell? ⟨b, 3, none⟩ = some (.int .i64 x) ∧ W.cell? ⟨b, 4, none⟩ = some (.int .i64 y) ∧ W.cell? ⟨D, 0, none⟩ = some (.int .i64 r) ∧ W.cell? ⟨D, 1, none⟩ = some (.int .i64 c)) :
    (W.setCell ⟨D, q, none⟩ v).cell? ⟨b, 3, none⟩ = some (.int .i64 x) ∧ (W.setCell ⟨D, q, none⟩ v).cell? ⟨b, 4, none⟩ = some (.int .i64 y) ∧ (W.setCell ⟨D, q, none⟩ v).cell? ⟨D, 0, none⟩ = some (.int .i64 r) ∧ (W.setCell ⟨D, q, none⟩ v).cell? ⟨D, 1, none⟩ = some (.int .i64 c) := by
  obtain ⟨h1, h2, h3, h4⟩ := hs
  have q0 : ¬ q = 0 := by omega
  have q1 : ¬ q = 1 := by omega
  have q0' : ¬ 0 = q := by omega
  have q1' : ¬ 1 = q := by omega
  have h' : ¬ b = D := fun e => h e.symm
  refine ⟨?_, ?_, ?_, ?_⟩ <;> simp [go_sem, *]
theorem paintTo_cur (p : Pt) : ∀ i, (paintTo p i).row = 0 ∧ (paintTo p i).col = 0
  | 0 => by unfold paintTo newF; rw [if_pos (paint_may p)]; exact ⟨rfl, rfl⟩
  | i + 1 => by
    obtain ⟨h1, -, -⟩ := paintTo_valid p i
    unfold paintTo
    cases p.ink[i]? with
    | none => exact paintTo_cur p i
    | some x =>
      obtain ⟨-, -, a, b⟩ := putF_size h1 x.row x.col (ikC x)
      exact ⟨a.trans (paintTo_cur p i).1, b.trans (paintTo_cur p i).2⟩
theorem paint_len (p : Pt) (i : Nat) : 0 < (paintTo p i).cs.length ∧ (paintTo p i).cs.length ≤ 20000 := by
  obtain ⟨h1, -, -⟩ := paintTo_valid p i
  obtain ⟨R, C, hR, hC, h1, h2, h3, h4, hL, -⟩ := valid_facts h1
  have := size_small h1 h2 h3 h4
  omega
theorem paint_same (p : Pt) (i : Nat) : (paintTo p i).cs.length = (paintTo p 0).cs.length := by
  obtain ⟨h1, a1, b1⟩ := paintTo_valid p i
  obtain ⟨h2, a2, b2⟩ := paintTo_valid p 0
  obtain ⟨R, C, hR, hC, -, -, -, -, hL, -⟩ := valid_facts h1
  obtain ⟨R', C', hR', hC', -, -, -, -, hL', -⟩ := valid_facts h2
  have e1 : R = R' := by rw [hR] at a1; rw [hR'] at a2; omega
  have e2 : C = C' := by rw [hC] at b1; rw [hC'] at b2; omega
  rw [hL, hL', e1, e2]
theorem RowOf.get7 {W : World} {b o : Nat} {L : List Ik} (h : RowOf W 7 ikCells (some ⟨b, o, none⟩) L) {j : Nat} {x : Ik} (hj : L[j]? = some x) :
    W.cell? ⟨b, o + j * 7, none⟩ = some (.int .i64 x.row) ∧ W.cell? ⟨b, o + j * 7 + 1, none⟩ = some (.int .i64 x.col) ∧ W.cell? ⟨b, o + j * 7 + 2, none⟩ = some (.int .i32 x.r) ∧ W.cell? ⟨b, o + j * 7 + 3, none⟩ = some (.int .i64 x.fg) ∧ W.cell? ⟨b, o + j * 7 + 4, none⟩ = some (.bool x.bo) ∧ W.cell? ⟨b, o + j * 7 + 5, none⟩ = some (.bool x.un) ∧ W.cell? ⟨b, o + j * 7 + 6, none⟩ = some (.bool x.iv) := by
  obtain ⟨b', o', e, -, hc⟩ := h j x hj
  injection e with e
  injection e with e1 e2
  subst e1 e2
  exact ⟨hc 0 _ rfl, hc 1 _ rfl, hc 2 _ rfl, hc 3 _ rfl, hc 4 _ rfl, hc 5 _ rfl, hc 6 _ rfl⟩
theorem ik_inj {W : World} {A : Option Addr} {L : List Ik} (h : RowOf W 7 ikCells A L) (h0 : 0 < L.length) : ∃ b o, A = some ⟨b, o, none⟩ := by
  obtain ⟨b, o, e, -⟩ := h 0 _ (List.getElem?_eq_getElem h0)
  exact ⟨b, o, e⟩
theorem pt_reads {W : World} {z : Nat} {p : Pt} {A : Option Addr} {n c : Nat} (h : Blk W z 24 (ptCells p A n c)) : W.cell? ⟨z, 0, none⟩ = some (.int .i64 p.rows) ∧ W.cell? ⟨z, 1, none⟩ = some (.int .i64 p.cols) ∧ W.cell? ⟨z, 2, none⟩ = some (.slice A n c) ∧ W.cell? ⟨z, 3, none⟩ = some (.int .i64 p.row) ∧ W.cell? ⟨z, 4, none⟩ = some (.int .i64 p.col) :=
  ⟨h.cell (i := 0) rfl, h.cell (i := 1) rfl, h.cell (i := 2) rfl, h.cell (i := 3) rfl, h.cell (i := 4) rfl⟩
set_option maxRecDepth 100000 in
set_option maxHeartbeats 4000000 in
theorem frame_any (p : Pt) (v : Value) (w : World) (h : PtAt w v p) (hl : p.ink.length ≤ 60) :
    Calls Tryd.prog 15 #[v] w fun e w' => ∃ v', e = .returned v' ∧ FrOwn w' w.heap.size v' (paintF p) ∧ Below w.heap.size w w' := by
  obtain ⟨A, cap, rfl, hc, hcap, hcl⟩ := h
  obtain ⟨N, hN⟩ : ∃ N, p.ink.length = N := ⟨_, rfl⟩
  have HCL := hide hcl
  have HN := hide hN
  have HPF := hide (show paintF p = { paintTo p N with row := nm p.row (2 + nm p.rows 9), col := nm p.col (8 + nm p.cols 13) } by rw [← hN]; rfl)
  have HK := hide ((Blk.new w 24 (ptCells p A N cap)).alloc (.cells (frCells 0 0 (.slice none 0 0) 0 0).toArray 28))
  have HZ := hide (Blk.new (w.alloc (.cells (ptCells p A N cap).toArray 24)) 28 (frCells 0 0 (.slice none 0 0) 0 0))
  rw [World.size_alloc] at HZ
  have HB0 := hide (show Below w.heap.size w ((w.alloc (.cells (ptCells p A N cap).toArray 24)).alloc (.cells (frCells 0 0 (.slice none 0 0) 0 0).toArray 28)) from ((Below.refl _ _).alloc (Nat.le_refl _) _).alloc (by simp) _)
  have hN6 : N ≤ 60 := by rw [← hN]; exact hl
  have HV := hide (paintTo_valid p)
  have HCU := hide (paintTo_cur p)
  obtain ⟨n, hn⟩ : ∃ n, (paintTo p 0).cs.length = n := ⟨_, rfl⟩
  obtain ⟨hn0, hn9⟩ := paint_len p 0
  rw [hn] at hn0 hn9
  have HLN := hide (show ∀ i, (paintTo p i).cs.length = n from fun i => (paint_same p i).trans hn)
  clear hn
  have HM := hide (paint_may p)
  obtain ⟨a, ha⟩ : ∃ a, Int.tmod p.rows 9 = a := ⟨_, rfl⟩
  obtain ⟨a', ha'⟩ : ∃ a', Int.tmod (a + 9) 9 = a' := ⟨_, rfl⟩
  obtain ⟨b, hb⟩ : ∃ b, Int.tmod p.cols 13 = b := ⟨_, rfl⟩
  obtain ⟨b', hb'⟩ : ∃ b', Int.tmod (b + 13) 13 = b' := ⟨_, rfl⟩
  have ea : nm p.rows 9 = a' := by unfold nm; rw [ha, ha']
  have eb : nm p.cols 13 = b' := by unfold nm; rw [hb, hb']
  have a1 : -9 < a := by have := Int.lt_tmod_of_pos p.rows (show (0 : Int) < 9 by omega); omega
  have a2 : a < 9 := by have := Int.tmod_lt_of_pos p.rows (show (0 : Int) < 9 by omega); omega
  have b1 : -13 < b := by have := Int.lt_tmod_of_pos p.cols (show (0 : Int) < 13 by omega); omega
  have b2 : b < 13 := by have := Int.tmod_lt_of_pos p.cols (show (0 : Int) < 13 by omega); omega
  obtain ⟨a3, a4⟩ := nm_bd p.rows (show (0 : Int) < 9 by omega)
  obtain ⟨b3, b4⟩ := nm_bd p.cols (show (0 : Int) < 13 by omega)
  rw [ea] at a3 a4
  rw [eb] at b3 b4
  obtain ⟨RR, hRR⟩ : ∃ R, 2 + a' = R := ⟨_, rfl⟩
  obtain ⟨CC, hCC⟩ : ∃ C, 8 + b' = C := ⟨_, rfl⟩
  rw [ea, eb, hRR, hCC] at HPF HM
  have r1 : 2 ≤ RR := by omega
  have r2 : RR ≤ 10 := by omega
  have r3 : 8 ≤ CC := by omega
  have r4 : CC ≤ 20 := by omega
  have r5 : ¬ RR = 0 := by omega
  have r6 : ¬ CC = 0 := by omega
  have HV0 := hide (show paintTo p 0 = newF RR CC by unfold paintTo; rw [ea, eb, hRR, hCC])
  have HV1 := hide (show ∀ i, (paintTo p i).rows = RR ∧ (paintTo p i).cols = CC from fun i => by obtain ⟨-, h1, h2⟩ := HV.out i; rw [ea] at h1; rw [eb] at h2; exact ⟨h1.trans hRR, h2.trans hCC⟩)
  have HNE := hide (show newE RR CC = 0 by unfold newE; rw [if_pos HM.out])
  obtain ⟨e, he⟩ : ∃ e, Int.tmod p.row RR = e := ⟨_, rfl⟩
  obtain ⟨e', he'⟩ : ∃ e', Int.tmod (e + RR) RR = e' := ⟨_, rfl⟩
  obtain ⟨d, hd⟩ : ∃ d, Int.tmod p.col CC = d := ⟨_, rfl⟩
  obtain ⟨d', hd'⟩ : ∃ d', Int.tmod (d + CC) CC = d' := ⟨_, rfl⟩
  have ee : nm p.row RR = e' := by unfold nm; rw [he, he']
  have ed : nm p.col CC = d' := by unfold nm; rw [hd, hd']
  have e1 : -RR < e := by have := Int.lt_tmod_of_pos p.row (show (0 : Int) < RR by omega); omega
  have e2 : e < RR := by have := Int.tmod_lt_of_pos p.row (show (0 : Int) < RR by omega); omega
  have d1 : -CC < d := by have := Int.lt_tmod_of_pos p.col (show (0 : Int) < CC by omega); omega
  have d2 : d < CC := by have := Int.tmod_lt_of_pos p.col (show (0 : Int) < CC by omega); omega
  rw [ee, ed] at HPF
  unfold ptV
  rw [hN] at hc ⊢
  have hwe : IntKind.i64.wrap (e + RR) = e + RR := by simp [IntKind.wrap_i64]; omega
  have hwd : IntKind.i64.wrap (d + CC) = d + CC := by simp [IntKind.wrap_i64]; omega
  clear hcl hN ea eb ee ed
  obtain ⟨prows, pcols, ink, prow, pcol⟩ := p
  dsimp only at ha hb he hd HCL HN hl ⊢
  go_enter Tryd.func15, Tryd.ntmps15
  go_wp2_with (first
    | (go_at_call 12; go_loud (refine (rnew_frame _ _ _).mono ?_; rintro e9 w1 ⟨v1, he9, hown, hb1⟩; rw [HNE.out] at he9; rw [← HV0.out] at hown; subst he9; obtain ⟨g, c1, rfl, hcm1, how, hBg⟩ := hown.openF (HV1.out 0) (HCU.out 0) (HLN.out 0) hn0; rw [World.size_alloc, World.size_alloc] at how hBg; have hgl := how.inb; have HW := hide (show Below w1.heap.size w1 _ from (Below.refl _ _).alloc (Nat.le_refl _) (.cells #[.int .i64 RR, .int .i64 CC, .slice (some ⟨g, 0, none⟩) n c1, .int .i64 0, .int .i64 0] 28)); have HOW := hide (how.below HW.out); have HK1 := hide ((HK.out.below hb1).below HW.out); have HZ1 := hide ((HZ.out.below hb1).below HW.out); have hz9 := (HZ.out.below hb1).lt; have HB1 := hide ((HB0.out.trans (hb1.mono HB0.out.size)).trans (HW.out.mono (Nat.le_trans HB0.out.size hb1.size))); clear hown how hb1))
    | fail)
  have HF1 := hide (show Blk (w1.alloc (.cells #[.int .i64 RR, .int .i64 CC, .slice (some ⟨g, 0, none⟩) n c1, .int .i64 0, .int .i64 0] 28)) w1.heap.size 28 (frCells RR CC (.slice (some ⟨g, 0, none⟩) n c1) 0 0) from Blk.new w1 _ _)
  have hgne : ¬ w1.heap.size = g := by omega
  obtain ⟨D, hD⟩ : ∃ D, w1.heap.size = D := ⟨_, rfl⟩
  rw [hD] at HF1 hgne hz9
  have hDw : w.heap.size + 1 < D := by omega
  have hD1 : ¬ D = w.heap.size := by omega
  have hD2 : ¬ D = w.heap.size + 1 := by omega
  have hD3 : ¬ w.heap.size = D := by omega
  have hD4 : ¬ w.heap.size + 1 = D := by omega
  rw [hD]
  clear hgl hBg
  go_loopw [5] (fun iv wr => ∃ (i g c : Nat), iv = .int .i64 i ∧ i ≤ N ∧ c ≤ maxLen ∧ ¬ D = g ∧ Hid (OwnC wr (w.heap.size + 1 + 1) (.slice (some ⟨g, 0, none⟩) n c) (paintTo ⟨prows, pcols, ink, prow, pcol⟩ i).cs) ∧ Hid (Blk wr D 28 (frCells RR CC (.slice (some ⟨g, 0, none⟩) n c) 0 0)) ∧ Hid (Blk wr w.heap.size 24 (ptCells ⟨prows, pcols, ink, prow, pcol⟩ A N cap)) ∧ Hid (Blk wr (w.heap.size + 1) 28 (frCells 0 0 (.slice none 0 0) 0 0)) ∧ Hid (Below w.heap.size w wr)) (fun iv _ => N - (intOf iv).toNat)
  case atStart => exact ⟨0, g, c1, rfl, by omega, hcm1, hgne, HOW, HF1, HK1, HZ1, HB1⟩
  case round =>
    clear HK HZ HB0 HK1 HZ1 HB1 HF1 HOW HW hD hcm1 hgne
    obtain ⟨i, g, c, rfl, hi, hcm, hgne, HOW, HF, HK, HZ, HB⟩ := hrel
    obtain ⟨k0, k1, k2, k3, k4⟩ := pt_reads HK.out
    obtain ⟨f0, f1, f2, f3, f4, ff⟩ := fr_reads HF.out
    obtain ⟨z0, z1, z2, z3, z4, zf⟩ := fr_reads HZ.out
    dsimp only at k0 k1 k2 k3 k4
    by_cases hlt : i < N
    · obtain ⟨x, hx⟩ : ∃ x, ink[i]? = some x := ⟨_, List.getElem?_eq_getElem (by rw [HN.out]; exact hlt)⟩
      obtain ⟨bb, oo, rfl⟩ := ik_inj HCL.out (by rw [HN.out]; omega)
      obtain ⟨x0, x1, x2, x3, x4, x5, x6⟩ := (HCL.out.below HB.out).get7 hx
      have HST := hide (paintTo_step (p := ⟨prows, pcols, ink, prow, pcol⟩) hx)
      clear hx
      obtain ⟨xr, xc, r, fg, bo, un, iv⟩ := x
      dsimp only at x0 x1 x2 x3 x4 x5 x6 HST
      have HAL := hide ((Below.refl wr.heap.size wr).alloc (Nat.le_refl _) (.cells #[.int .i64 xr, .int .i64 xc, .int .i32 r, .int .i64 fg, .bool bo, .bool un, .bool iv] 37))
      have HOW1 := hide (HOW.out.below HAL.out)
      have HF1 := hide (HF.out.below HAL.out)
      have HK1 := hide (HK.out.below HAL.out)
      have HZ1 := hide (HZ.out.below HAL.out)
      have HB1 := hide (HB.out.trans (HAL.out.mono HB.out.size))
      have hDl := HF.out.lt
      clear f0 f1 f2 f3 f4 ff
      obtain ⟨f0, f1, f2, f3, f4, ff⟩ := fr_reads HF1.out
      have HFA := hide (show FrAt _ (.agg #[.int .i64 RR, .int .i64 CC, .slice (some ⟨g, 0, none⟩) n c, .int .i64 0, .int .i64 0]) (paintTo ⟨prows, pcols, ink, prow, pcol⟩ i) from (fr_ownF HOW1.out hcm (HLN.out i) (HV1.out i) (HCU.out i)).at)
      go_wp2_with (first
        | (go_at_call 18; refine (rput_frame _ _ xr xc ⟨r, 0, fg, bo, un, iv⟩ _ HFA.out).mono ?_; rintro e9 w2 ⟨v2, rfl, hown, hb2⟩; have hown' : FrOwn w2 _ v2 (paintTo ⟨prows, pcols, ink, prow, pcol⟩ (i + 1)) := (by rw [HST.out]; exact hown); obtain ⟨g2, c2, rfl, hcm2, how, hBg⟩ := hown'.openF (HV1.out (i + 1)) (HCU.out (i + 1)) (HLN.out (i + 1)) hn0; have hgD : ¬ D = g2 := (by have := HAL.out.size; omega); have hbase : w.heap.size + 1 + 1 ≤ (wr.alloc (.cells #[.int .i64 xr, .int .i64 xc, .int .i32 r, .int .i64 fg, .bool bo, .bool un, .bool iv] 37)).heap.size := (by have := HAL.out.size; omega); have HOW2 := hide (how.mono hbase); have HF2 := hide (HF1.out.below hb2); have HK2 := hide (HK1.out.below hb2); have HZ2 := hide (HZ1.out.below hb2); have HB2 := hide (HB1.out.trans (hb2.mono HB1.out.size)); clear f0 f1 f2 f3 f4 ff hown hown' how hb2; obtain ⟨f0, f1, f2, f3, f4, ff⟩ := fr_reads HF2.out)
        | fail)
      have K1 := fr_off HOW2.out hgD RR CC (.slice (some ⟨g2, 0, none⟩) n c2) 0 0
      have K2 := fr_put HF2.out RR CC (.slice (some ⟨g2, 0, none⟩) n c2) 0 0
      have K3 := fr_far HK2.out hD1 RR CC (.slice (some ⟨g2, 0, none⟩) n c2) 0 0
      have K4 := fr_far HZ2.out hD2 RR CC (.slice (some ⟨g2, 0, none⟩) n c2) 0 0
      have K5 := fr_below HB2.out (show w.heap.size ≤ D by omega) RR CC (.slice (some ⟨g2, 0, none⟩) n c2) 0 0
      unfold frSet at K1 K2 K3 K4 K5
      go_roundw
      case rel => exact ⟨i + 1, g2, c2, by go_num, by omega, hcm2, hgD, hide K1, hide K2, hide K3, hide K4, hide K5⟩
      case measure => simp [intOf]; omega
    · obtain rfl : i = N := by omega
      go_wp2
      go_region_held3 (fun W => W.cell? ⟨w.heap.size, 3, none⟩ = some (.int .i64 prow) ∧ W.cell? ⟨w.heap.size, 4, none⟩ = some (.int .i64 pcol) ∧ W.cell? ⟨D, 0, none⟩ = some (.int .i64 RR) ∧ W.cell? ⟨D, 1, none⟩ = some (.int .i64 CC))
        (first | exact ⟨k3, k4, f0, f1⟩ | exact keepS hD1 3 (by decide) _ ⟨k3, k4, f0, f1⟩ | exact keepS hD1 4 (by decide) _ ⟨k3, k4, f0, f1⟩ | exact keepS hD1 4 (by decide) _ (keepS hD1 3 (by decide) _ ⟨k3, k4, f0, f1⟩) | exact keepS hD1 3 (by decide) _ (keepS hD1 4 (by decide) _ ⟨k3, k4, f0, f1⟩))
        (fail)
      all_goals go_wp2
      have key : ∀ WW, WW = (frSet ((wr.setCell ⟨D, 3, none⟩ (.int .i64 e')).setCell ⟨D, 4, none⟩ (.int .i64 d')) (w.heap.size + 1) RR CC (.slice (some ⟨g, 0, none⟩) n c) e' d').drew → Blk WW (w.heap.size + 1) 28 (frCells RR CC (.slice (some ⟨g, 0, none⟩) n c) e' d') ∧ OwnC WW (w.heap.size + 1 + 1) (.slice (some ⟨g, 0, none⟩) n c) (paintTo ⟨prows, pcols, ink, prow, pcol⟩ i).cs ∧ Below w.heap.size w WW := by
        rintro _ rfl
        exact ⟨(fr_put ((HZ.out.far (p := ⟨D, 3, none⟩) hD2 (.int .i64 e')).far (p := ⟨D, 4, none⟩) hD2 (.int .i64 d')) RR CC (.slice (some ⟨g, 0, none⟩) n c) e' d').drew, own_drew (fr_low ((HOW.out.off (p := ⟨D, 3, none⟩) hgne (.int .i64 e')).off (p := ⟨D, 4, none⟩) hgne (.int .i64 d')) (Nat.lt_succ_self _) RR CC (.slice (some ⟨g, 0, none⟩) n c) e' d'), (fr_below ((HB.out.setCell (p := ⟨D, 3, none⟩) (by show w.heap.size ≤ D; omega) (.int .i64 e')).setCell (p := ⟨D, 4, none⟩) (by show w.heap.size ≤ D; omega) (.int .i64 d')) (Nat.le_succ _) RR CC (.slice (some ⟨g, 0, none⟩) n c) e' d').drew⟩
      have hkey := key _ rfl
      unfold frSet at hkey
      refine bodyPost_ret (results_cell_row rfl _ _ (w.heap.size + 1) 28 (frCells RR CC (.slice (some ⟨g, 0, none⟩) n c) e' d').toArray (0, 0) _ rfl hkey.1 Tryd.underlying28 rfl (by kernel_rfl)) rfl ⟨_, rfl, ?_, hkey.2.2⟩
      rw [HPF.out, (HV1.out i).1, (HV1.out i).2]
      exact (fr_own (HLN.out i) hcm hkey.2.1).mono (show w.heap.size ≤ w.heap.size + 1 + 1 by omega)
end Go.Proofs.YtojjdckpbmjjdaaDoor
