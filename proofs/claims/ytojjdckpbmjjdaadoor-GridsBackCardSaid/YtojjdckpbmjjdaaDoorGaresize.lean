/- Contract of grids.Resize. -/
import Derived.Test.YtojjdckpbmjjdaaDoorGresd
namespace Go.Proofs.YtojjdckpbmjjdaaDoor
open Go.RowKit

theorem resF_bad {f : Fr} {rows cols : Int} (h : resOk f rows cols = false) : resF f rows cols = noF ∧ resE f rows cols = 2 := by unfold resF resE; rw [h]; exact ⟨rfl, rfl⟩
theorem resF_ok {f : Fr} {rows cols : Int} (h : resOk f rows cols = true) : resF f rows cols = ⟨rows, cols, resTo f.cs f.cols.toNat cols.toNat rows.toNat (min rows.toNat f.rows.toNat), min f.row (rows - 1), min f.col (cols - 1)⟩ ∧ resE f rows cols = 0 := by unfold resF resE; rw [if_pos h, if_pos h]; exact ⟨rfl, rfl⟩
theorem FrOwn.nil_form {W : World} {B : Nat} {v : Value} (h : FrOwn W B v noF) : ∃ A c, v = .agg #[.int .i64 0, .int .i64 0, .slice A 0 c, .int .i64 0, .int .i64 0] := by
  obtain ⟨A, c, e, -, -⟩ := h
  exact ⟨A, c, e⟩
/-- The two boxes. -/
def Bx2 (W : World) (z : Nat) (a b : Int) (s : Value) (c d : Int) : Prop := Blk W z 28 (frCells a b s c d) ∧ Blk W (z + 1) 28 (frCells 0 0 (.slice none 0 0) 0 0)
theorem bx2_new (w : World) (a b : Int) (s : Value) (c d : Int) : Bx2 ((w.alloc (.cells (frCells a b s c d).toArray 28)).alloc (.cells (frCells 0 0 (.slice none 0 0) 0 0).toArray 28)) w.heap.size a b s c d := by
  have h1 := Blk.new (w.alloc (.cells (frCells a b s c d).toArray 28)) 28 (frCells 0 0 (.slice none 0 0) 0 0)
  rw [World.size_alloc] at h1
  exact ⟨(Blk.new w _ _).alloc _, h1⟩
theorem Bx2.below {W W' : World} {z : Nat} {a b c d : Int} {s : Value} (h : Bx2 W z a b s c d) (hb : Below W.heap.size W W') : Bx2 W' z a b s c d := ⟨h.1.below hb, h.2.below hb⟩
theorem Bx2.alloc {W : World} {z : Nat} {a b c d : Int} {s : Value} (h : Bx2 W z a b s c d) (o : Obj) : Bx2 (W.alloc o) z a b s c d := ⟨h.1.alloc o, h.2.alloc o⟩
theorem Bx2.grown {W W' : World} {z g : Nat} {a b c d : Int} {s : Value} (h : Bx2 W z a b s c d) (hg : W.grownBy W' (some g)) (hz : z + 1 < g) : Bx2 W' z a b s c d := ⟨h.1.grown hg (by omega), h.2.grown hg (by omega)⟩
theorem Bx2.far {W : World} {z : Nat} {a b c d : Int} {s : Value} (h : Bx2 W z a b s c d) {p : Addr} (hp : z + 1 < p.block) (x : Value) : Bx2 (W.setCell p x) z a b s c d := ⟨h.1.far (by omega) x, h.2.far (by omega) x⟩
theorem Bx2.reads {W : World} {z : Nat} {a b c d : Int} {s : Value} (h : Bx2 W z a b s c d) :
    (W.cell? ⟨z, 0, none⟩ = some (.int .i64 a) ∧ W.cell? ⟨z, 1, none⟩ = some (.int .i64 b) ∧ W.cell? ⟨z, 2, none⟩ = some s ∧ W.cell? ⟨z, 3, none⟩ = some (.int .i64 c) ∧ W.cell? ⟨z, 4, none⟩ = some (.int .i64 d) ∧ ∀ i, W.frozen? ⟨z, i, none⟩ = false) ∧
    (W.cell? ⟨z + 1, 0, none⟩ = some (.int .i64 0) ∧ W.cell? ⟨z + 1, 1, none⟩ = some (.int .i64 0) ∧ W.cell? ⟨z + 1, 2, none⟩ = some (.slice none 0 0) ∧ W.cell? ⟨z + 1, 3, none⟩ = some (.int .i64 0) ∧ W.cell? ⟨z + 1, 4, none⟩ = some (.int .i64 0) ∧ ∀ i, W.frozen? ⟨z + 1, i, none⟩ = false) :=
  ⟨fr_reads h.1, fr_reads h.2⟩
theorem own_drew {W : World} {B : Nat} {v : Value} {L : List Cl} (h : OwnC W B v L) : OwnC W.drew B v L := h
theorem wrap_mul {a b q : Nat} (h : a * b = q) (hq : q ≤ 100000) : IntKind.i64.wrap ((a : Int) * (b : Int)) = (q : Int) := by
  rw [show (a : Int) * (b : Int) = (q : Int) by rw [← h]; push_cast; rfl]
  simp [IntKind.wrap_i64]; omega
theorem wrap_mul1 {a b q : Nat} (h : a * b = q) (hq : q + b ≤ 100000) : IntKind.i64.wrap (((a : Int) + 1) * (b : Int)) = (q : Int) + (b : Int) := by
  rw [show ((a : Int) + 1) * (b : Int) = (q : Int) + (b : Int) by rw [Int.add_mul, Int.one_mul, ← h]; push_cast; rfl]
  simp [IntKind.wrap_i64]; omega
set_option maxRecDepth 100000 in
set_option maxHeartbeats 4000000 in
theorem resize_frame (f : Fr) (v : Value) (rows cols : Int) (w : World) (h : FrAt w v f) (hT : WTabs w) (hB : BTab w) :
    Calls Tryd.prog 24 #[v, .int .i64 rows, .int .i64 cols] w fun e w' => ∃ v', e = .returned (.tuple #[v', .int .i64 (resE f rows cols)]) ∧ FrOwn w' w.heap.size v' (resF f rows cols) ∧ Below w.heap.size w w' := by
  obtain ⟨A, cap, rfl, hc, hcap, hcl⟩ := h
  obtain ⟨rw0, cl0, cs, fr, fc⟩ := f
  obtain ⟨n, hn⟩ : ∃ n, cs.length = n := ⟨_, rfl⟩
  have HFR := hide (show ∀ W, Below w.heap.size w W → FrAt W (frV ⟨rw0, cl0, cs, fr, fc⟩ A n cap) ⟨rw0, cl0, cs, fr, fc⟩ from fun W hW => ⟨A, cap, by dsimp only; rw [hn], hc, hcap, hcl.below hW⟩)
  have HN := hide hn
  have HCL := hide hcl
  have HT := hide hT
  have HBT := hide hB
  have hlt := World.block_lt_of_cell? _ _ hB.1
  dsimp only at hlt
  unfold frV at HFR ⊢
  dsimp only at hc HFR HCL ⊢
  rw [hn] at hc ⊢
  clear hcl hn hT hB
  have HX := hide (bx2_new w rw0 cl0 (.slice A n cap) fr fc)
  have HB0 := hide (show Below w.heap.size w ((w.alloc (.cells (frCells rw0 cl0 (.slice A n cap) fr fc).toArray 28)).alloc (.cells (frCells 0 0 (.slice none 0 0) 0 0).toArray 28)) from ((Below.refl _ _).alloc (Nat.le_refl _) _).alloc (by simp) _)
  by_cases hmay : mayB rows cols = true
  case neg =>
    have hm0 : mayB rows cols = false := by simpa using hmay
    have HNW := hide (newF_bad hm0)
    have HP := hide (resF_bad (f := ⟨rw0, cl0, cs, fr, fc⟩) (rows := rows) (cols := cols) (by unfold resOk; rw [hm0]; rfl))
    clear hmay hm0
    go_enter Tryd.func24, Tryd.ntmps24
    go_wp2_with (first
      | (go_at_call 11; refine (new_frame _ _ _ (HBT.out.below HB0.out)).mono ?_; rintro e w1 ⟨v1, he, hown, hb1⟩; rw [HNW.out.2] at he; rw [HNW.out.1] at hown; subst he; obtain ⟨A1, c1, rfl⟩ := hown.nil_form; have HX2 := hide ((HX.out.below hb1).alloc (.cells #[.int .i64 0, .int .i64 0, .slice A1 0 c1, .int .i64 0, .int .i64 0] 28)); have HB2 := hide ((HB0.out.trans (hb1.mono HB0.out.size)).alloc (Nat.le_trans HB0.out.size hb1.size) (.cells #[.int .i64 0, .int .i64 0, .slice A1 0 c1, .int .i64 0, .int .i64 0] 28)); obtain ⟨z0, z1, z2, z3, z4, zf⟩ := fr_reads HX2.out.2; clear hown hb1)
      | fail)
    refine bodyPost_ret (results_cell_tmp rfl _ _ (w.heap.size + 1) 28 (frCells 0 0 (.slice none 0 0) 0 0).toArray (0, 0) _ (.int .i64 2) rfl rfl (fr_put HX2.out.2 0 0 (.slice none 0 0) 0 0) Tryd.underlying28 rfl (by kernel_rfl)) rfl ⟨_, by rw [HP.out.2], by rw [HP.out.1]; exact fr_nil _ _, fr_below HB2.out (Nat.le_succ _) _ _ _ _ _⟩
  case pos =>
    obtain ⟨m1, m2, m3, m4⟩ := may_t.1 hmay
    obtain ⟨R', rfl⟩ : ∃ R : Nat, rows = R := ⟨rows.toNat, by omega⟩
    obtain ⟨C', rfl⟩ : ∃ C : Nat, cols = C := ⟨cols.toNat, by omega⟩
    have HNW := hide (newF_ok hmay)
    obtain ⟨hs1, hs2⟩ := size_small (R := R') (C := C') (by omega) (by omega) (by omega) (by omega)
    by_cases hv : validF ⟨rw0, cl0, cs, fr, fc⟩ = true
    case neg =>
      have hv0 : validF ⟨rw0, cl0, cs, fr, fc⟩ = false := by simpa using hv
      have HV := hide hv0
      have HP := hide (resF_bad (f := ⟨rw0, cl0, cs, fr, fc⟩) (rows := R') (cols := C') (by unfold resOk; rw [hv0, Bool.and_false]))
      obtain ⟨n', hn'⟩ : ∃ n', R' * C' = n' := ⟨_, rfl⟩
      rw [hn'] at HNW hs1 hs2
      clear hv hv0 hmay hn'
      go_enter Tryd.func24, Tryd.ntmps24
      go_wp2_with (first
        | (go_at_call 11; refine (new_frame _ _ _ (HBT.out.below HB0.out)).mono ?_; rintro e w1 ⟨v1, he, hown, hb1⟩; rw [HNW.out.2] at he; rw [HNW.out.1] at hown; subst he; obtain ⟨g, c1, rfl, hcm1, how, hBg⟩ := hown.open (n := n') (by rw [List.length_replicate]) (by omega); rw [World.size_alloc, World.size_alloc] at how hBg; have hgl := how.inb; obtain ⟨A9, c9, e9, hcc⟩ := how.form; rw [List.length_replicate] at e9 hcc; injection e9 with e9 e9' e9''; subst e9''; have HX2 := hide ((HX.out.below hb1).alloc (.cells #[.int .i64 R', .int .i64 C', .slice (some ⟨g, 0, none⟩) n' c1, .int .i64 0, .int .i64 0] 28)); have HB2 := hide ((HB0.out.trans (hb1.mono HB0.out.size)).alloc (Nat.le_trans HB0.out.size hb1.size) (.cells #[.int .i64 R', .int .i64 C', .slice (some ⟨g, 0, none⟩) n' c1, .int .i64 0, .int .i64 0] 28)); have HOW2 := hide (how.below ((Below.refl _ _).alloc (Nat.le_refl _) (.cells #[.int .i64 R', .int .i64 C', .slice (some ⟨g, 0, none⟩) n' c1, .int .i64 0, .int .i64 0] 28))); have HF2 := hide (show Blk (w1.alloc (.cells #[.int .i64 R', .int .i64 C', .slice (some ⟨g, 0, none⟩) n' c1, .int .i64 0, .int .i64 0] 28)) w1.heap.size 28 (frCells R' C' (.slice (some ⟨g, 0, none⟩) n' c1) 0 0) from Blk.new w1 _ _); have hzz := (HX.out.below hb1).2.lt; obtain ⟨⟨k0, k1, k2, k3, k4, kf⟩, z0, z1, z2, z3, z4, zf⟩ := HX2.out.reads; clear hown hb1 how e9 e9')
        | (go_at_call 26; go_loud (refine (valid_is _ _ HV.out _ _ (HFR.out _ HB2.out) (HT.out.below HB2.out)).mono ?_; rintro e w3 ⟨rfl, hb3⟩; have HX3 := hide (HX2.out.below hb3); have HB3 := hide (HB2.out.trans (hb3.mono HB2.out.size)); have HOW3 := hide (HOW2.out.below hb3); have HF3 := hide (HF2.out.below hb3); clear k0 k1 k2 k3 k4 kf z0 z1 z2 z3 z4 zf hb3; obtain ⟨⟨k0, k1, k2, k3, k4, kf⟩, z0, z1, z2, z3, z4, zf⟩ := HX3.out.reads))
        | fail)
      refine bodyPost_ret (results_cell_tmp rfl _ _ (w.heap.size + 1) 28 (frCells 0 0 (.slice none 0 0) 0 0).toArray (0, 0) _ (.int .i64 2) rfl rfl (fr_put HX3.out.2 0 0 (.slice none 0 0) 0 0) Tryd.underlying28 rfl (by kernel_rfl)) rfl ⟨_, by rw [HP.out.2], by rw [HP.out.1]; exact fr_nil _ _, fr_below HB3.out (Nat.le_succ _) _ _ _ _ _⟩
    case pos =>
      have HV := hide hv
      have HP := hide (resF_ok (f := ⟨rw0, cl0, cs, fr, fc⟩) (show resOk ⟨rw0, cl0, cs, fr, fc⟩ R' C' = true by unfold resOk; rw [hmay, hv]; rfl))
      obtain ⟨R, C, hR, hC, h1, h2, h3, h4, hL, q1, q2, q3, q4, hvl⟩ := valid_facts hv
      dsimp only at hR hC hL q1 q2 q3 q4 hvl
      subst hR hC
      obtain ⟨b, o, hA, -⟩ := ClsAt.at (j := 0) HCL.out (List.getElem?_eq_getElem (show 0 < cs.length by rw [hL]; have := (size_small h1 h2 h3 h4).1; omega))
      subst hA
      have hLs := (size_small h1 h2 h3 h4).2
      obtain ⟨n', hn'⟩ : ∃ n', R' * C' = n' := ⟨_, rfl⟩
      rw [hn'] at HNW hs1 hs2
      have hnRC : n = R * C := by rw [← HN.out]; exact hL
      have HNRC := hide hnRC
      have HVL := hide hvl
      have HN' := hide hn'
      obtain ⟨m, hm⟩ : ∃ m, min R' R = m := ⟨_, rfl⟩
      have hmz : min (R' : Int) (R : Int) = (m : Int) := by rw [← hm]; omega
      have hmR : m ≤ R ∧ m ≤ R' ∧ (m = R ∨ m = R') := by omega
      obtain ⟨d, hd⟩ : ∃ d, C' = d + 1 := ⟨C' - 1, by omega⟩
      have hdz : (C' : Int) - 1 = (d : Int) := by omega
      have HD := hide hd
      clear hd
      have hrz : (R' : Int) - 1 ≤ 100 := by omega
      rw [← hnRC] at hLs
      dsimp only at HP
      simp only [Int.toNat_natCast] at HP
      obtain ⟨fr2, hfr2⟩ : ∃ x, min fr ((R' : Int) - 1) = x := ⟨_, rfl⟩
      obtain ⟨fc2, hfc2⟩ : ∃ x, min fc (d : Int) = x := ⟨_, rfl⟩
      rw [hm, hdz, hfr2, hfc2] at HP
      clear hv hvl hL hnRC hmay hn' hm
      go_enter Tryd.func24, Tryd.ntmps24
      go_wp2_with (first
        | (go_at_call 11; refine (new_frame _ _ _ (HBT.out.below HB0.out)).mono ?_; rintro e w1 ⟨v1, he, hown, hb1⟩; rw [HNW.out.2] at he; rw [HNW.out.1] at hown; subst he; obtain ⟨g, c1, rfl, hcm1, how, hBg⟩ := hown.open (n := n') (by rw [List.length_replicate]) (by omega); rw [World.size_alloc, World.size_alloc] at how hBg; have hgl := how.inb; obtain ⟨A9, c9, e9, hcc⟩ := how.form; rw [List.length_replicate] at e9 hcc; injection e9 with e9 e9' e9''; subst e9''; have HX2 := hide ((HX.out.below hb1).alloc (.cells #[.int .i64 R', .int .i64 C', .slice (some ⟨g, 0, none⟩) n' c1, .int .i64 0, .int .i64 0] 28)); have HB2 := hide ((HB0.out.trans (hb1.mono HB0.out.size)).alloc (Nat.le_trans HB0.out.size hb1.size) (.cells #[.int .i64 R', .int .i64 C', .slice (some ⟨g, 0, none⟩) n' c1, .int .i64 0, .int .i64 0] 28)); have HOW2 := hide (how.below ((Below.refl _ _).alloc (Nat.le_refl _) (.cells #[.int .i64 R', .int .i64 C', .slice (some ⟨g, 0, none⟩) n' c1, .int .i64 0, .int .i64 0] 28))); have HF2 := hide (show Blk (w1.alloc (.cells #[.int .i64 R', .int .i64 C', .slice (some ⟨g, 0, none⟩) n' c1, .int .i64 0, .int .i64 0] 28)) w1.heap.size 28 (frCells R' C' (.slice (some ⟨g, 0, none⟩) n' c1) 0 0) from Blk.new w1 _ _); have hzz := (HX.out.below hb1).2.lt; obtain ⟨⟨k0, k1, k2, k3, k4, kf⟩, z0, z1, z2, z3, z4, zf⟩ := HX2.out.reads; clear hown hb1 how e9 e9')
        | (go_at_call 26; go_loud (refine (valid_is _ _ HV.out _ _ (HFR.out _ HB2.out) (HT.out.below HB2.out)).mono ?_; rintro e w3 ⟨rfl, hb3⟩; have HX3 := hide (HX2.out.below hb3); have HB3 := hide (HB2.out.trans (hb3.mono HB2.out.size)); have HOW3 := hide (HOW2.out.below hb3); have HF3 := hide (HF2.out.below hb3); clear k0 k1 k2 k3 k4 kf z0 z1 z2 z3 z4 zf hb3; obtain ⟨⟨k0, k1, k2, k3, k4, kf⟩, z0, z1, z2, z3, z4, zf⟩ := HX3.out.reads))
        | fail)
      have hgw : ¬ g = w1.heap.size := by omega
      have hgw' : ¬ w1.heap.size = g := by omega
      have hgz : w.heap.size + 1 < g := by omega
      have hwz : w.heap.size + 1 < w1.heap.size := by omega
      have hw0 : ¬ w1.heap.size = w.heap.size := by omega
      have hw8 : w.heap.size ≤ w1.heap.size := by omega
      have hgb : ¬ g = 0 := by omega
      have hgb' : ¬ 0 = g := by omega
      have hw9 : ¬ w1.heap.size = w.heap.size + 1 := by omega
      go_loopw [30] (fun iv wr => ∃ i : Nat, iv = .int .i64 i ∧ i ≤ m ∧ Hid (OwnC wr (w.heap.size + 1 + 1) (.slice (some ⟨g, 0, none⟩) n' c1) (resTo cs C C' R' i)) ∧ Hid (Bx2 wr w.heap.size R C (.slice (some ⟨b, o, none⟩) n cap) fr fc) ∧ Hid (Blk wr w1.heap.size 28 (frCells R' C' (.slice (some ⟨g, 0, none⟩) n' c1) 0 0)) ∧ Hid (BTab wr) ∧ Hid (Below w.heap.size w wr)) (fun iv _ => m - (intOf iv).toNat)
      case atStart => exact ⟨0, rfl, by omega, hide (by have h9 := HOW3.out; rw [← HN'.out] at h9 ⊢; exact h9), HX3, HF3, hide (HBT.out.below HB3.out), HB3⟩
      case round =>
        clear HX HX2 HX3 HB0 HB2 HB3 HOW2 HOW3 HF2 HF3 HBT k0 k1 k2 k3 k4 kf z0 z1 z2 z3 z4 zf
        obtain ⟨i, rfl, hi, HOW, HX, HF, HBT, HB⟩ := hrel
        obtain ⟨⟨k0, k1, k2, k3, k4, kf⟩, z0, z1, z2, z3, z4, zf⟩ := HX.out.reads
        obtain ⟨f0, f1, f2, f3, f4, ff⟩ := fr_reads HF.out
        have HM := hide (resTo_len cs C C' R' i (by omega))
        by_cases hlt : i < m
        · have hS := rowL_len (L := cs) (rows := R) (cols := C) (k := i) (by rw [HN.out]; exact HNRC.out) (by omega)
          have HS := hide hS
          have hp1 := part_len (L := cs) (R := R) (C := C) (i := i) (by rw [HN.out]; exact HNRC.out) (by omega)
          have hq1 := part_len HM.out (show i < R' by omega)
          rw [← HNRC.out] at hp1
          rw [HN'.out] at hq1
          have HMID := hide (fun k hk => res_mid (k := k) HM.out (show i < R' by omega) (res_row0 (by omega)) hS hk)
          have HLAST := hide (fun h => res_last (S := rowL cs C i) HM.out (show i < R' by omega) (by omega) h)
          have HSTAY := hide (fun h => @res_stay (resTo cs C C' R' i) (rowL cs C i) C' i h)
          have HGET := hide (res_get (S := rowL cs C i) HM.out (show i < R' by omega) (by omega))
          have HSUB := hide ((show ClsAt wr _ _ from HCL.out.below HB.out).sub (i * C) C)
          have HML := hide (replR_len HM.out (show i < R' by omega) (fill_len (rowL cs C i) C'))
          obtain ⟨p, hp⟩ : ∃ p, i * C = p := ⟨_, rfl⟩
          obtain ⟨q, hq⟩ : ∃ q, i * C' = q := ⟨_, rfl⟩
          have hw1 := wrap_mul hp (by omega)
          have hw2 := wrap_mul1 hp (by omega)
          have hw3 := wrap_mul hq (by omega)
          have hw4 := wrap_mul1 hq (by omega)
          rw [hp] at hp1 HSUB
          rw [hq] at hq1 HMID HLAST HGET
          have HSL := hide (show rowL cs C i = (cs.drop p).take C by rw [← hp]; rfl)
          clear hp hq hS
          rw [show C' - 1 = d by have := HD.out; omega] at HLAST HSTAY HGET
          obtain ⟨X, hX⟩ : ∃ X, (fillL (rowL cs C i) C').getD d blankC = X := ⟨_, rfl⟩
          rw [hX] at HLAST HSTAY HGET
          have hdC : d < C' := by have := HD.out; omega
          have hdCz : (d : Int) < (C' : Int) := by omega
          clear hX
          obtain ⟨xr, xw, xf, xb, xu, xi⟩ := X
          dsimp only at HLAST HSTAY
          obtain ⟨w5, hcp, how5, hg5⟩ := own_copy (w.heap.size + 1 + 1) g q n' c1 _ HOW.out (HM.out.trans HN'.out) C' (c1 - q) b (o + p * 6) C (cap - p) (rowL cs C i) HS.out (by rw [HSL.out]; exact HSUB.out) (min C C') rfl (by omega) 3
          rw [HMID.out _ rfl] at how5
          have HOW5 := hide how5
          have HX5 := hide (HX.out.grown hg5 hgz)
          have HF5 := hide (HF.out.grown hg5 hgw')
          have HBT5 := hide (HBT.out.keep hg5 hgb)
          have HB5 := hide (HB.out.grown hg5 HB.out.size (fun k e => by cases e; omega))
          obtain ⟨x0, x1, x2, x3, x4, x5⟩ := own_part (k := q) (j := d) HOW5.out HGET.out
          obtain ⟨t0, t1, t2, t3, t4, t5⟩ := HBT5.out
          have xg := fun i => HOW5.out.frozen i
          dsimp only at x0 x1 x2 x3 x4 x5
          clear hg5 how5
          by_cases hx2 : xw = 2
          · have HL2 := hide (HLAST.out hx2)
            subst hx2
            clear HLAST HSTAY
            go_wp2
            go_roundw
            case rel => exact ⟨i + 1, by go_num, by omega, hide (by have h9 := own_set_part HOW5.out (HML.out.trans HN'.out) (show q + d < n' by omega) blankC; rw [HL2.out] at h9; exact h9), hide (HX5.out.grown (grown6 _ g _ _ _ _ _ _ _ _ _ _ _ _) hgz), hide (HF5.out.grown (grown6 _ g _ _ _ _ _ _ _ _ _ _ _ _) hgw'), hide (HBT5.out.keep (grown6 _ g _ _ _ _ _ _ _ _ _ _ _ _) hgb), hide (HB5.out.grown (grown6 _ g _ _ _ _ _ _ _ _ _ _ _ _) HB5.out.size (fun k e => by cases e; omega))⟩
            case measure => simp [intOf]; omega
          · have HL2 := hide (HSTAY.out hx2)
            clear HLAST HSTAY
            go_wp2
            go_roundw
            case rel => exact ⟨i + 1, by go_num, by omega, hide (by have h9 := HOW5.out; rw [HL2.out] at h9; exact h9), HX5, HF5, HBT5, HB5⟩
            case measure => simp [intOf]; omega
        · obtain rfl : i = m := by omega
          go_wp2
          go_region
          all_goals go_wp2
          have key : ∀ WW, WW = (frSet ((wr.setCell ⟨w1.heap.size, 3, none⟩ (.int .i64 fr2)).setCell ⟨w1.heap.size, 4, none⟩ (.int .i64 fc2)) (w.heap.size + 1) R' C' (.slice (some ⟨g, 0, none⟩) n' c1) fr2 fc2).drew → Blk WW (w.heap.size + 1) 28 (frCells R' C' (.slice (some ⟨g, 0, none⟩) n' c1) fr2 fc2) ∧ OwnC WW (w.heap.size + 1 + 1) (.slice (some ⟨g, 0, none⟩) n' c1) (resTo cs C C' R' i) ∧ Below w.heap.size w WW := by
            rintro _ rfl
            exact ⟨(fr_put ((HX.out.2.far (p := ⟨w1.heap.size, 3, none⟩) hw9 (.int .i64 fr2)).far (p := ⟨w1.heap.size, 4, none⟩) hw9 (.int .i64 fc2)) R' C' (.slice (some ⟨g, 0, none⟩) n' c1) fr2 fc2).drew, own_drew (fr_low ((HOW.out.off (p := ⟨w1.heap.size, 3, none⟩) hgw' (.int .i64 fr2)).off (p := ⟨w1.heap.size, 4, none⟩) hgw' (.int .i64 fc2)) (Nat.lt_succ_self _) R' C' (.slice (some ⟨g, 0, none⟩) n' c1) fr2 fc2), (fr_below ((HB.out.setCell (p := ⟨w1.heap.size, 3, none⟩) hw8 (.int .i64 fr2)).setCell (p := ⟨w1.heap.size, 4, none⟩) hw8 (.int .i64 fc2)) (Nat.le_succ _) R' C' (.slice (some ⟨g, 0, none⟩) n' c1) fr2 fc2).drew⟩
          have hkey := key _ rfl
          unfold frSet at hkey
          refine bodyPost_ret (results_cell_tmp rfl _ _ (w.heap.size + 1) 28 (frCells R' C' (.slice (some ⟨g, 0, none⟩) n' c1) fr2 fc2).toArray (0, 0) _ (.int .i64 0) rfl rfl hkey.1 Tryd.underlying28 rfl (by kernel_rfl)) rfl ⟨_, by rw [HP.out.2], ?_, hkey.2.2⟩
          rw [HP.out.1]
          exact (fr_own (HM.out.trans HN'.out) hcm1 hkey.2.1).mono (show w.heap.size ≤ w.heap.size + 1 + 1 by omega)
end Go.Proofs.YtojjdckpbmjjdaaDoor
