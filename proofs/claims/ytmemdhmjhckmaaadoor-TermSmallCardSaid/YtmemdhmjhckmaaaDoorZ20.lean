/- Terminal: control sequences. Terminal: control sequences. Terminal: control sequences. Terminal: control sequences. -/
import Derived.Test.YtmemdhmjhckmaaaDoorZ19
namespace Go.Proofs.YtmemdhmjhckmaaaDoor
open Go.RowKit
set_option maxRecDepth 100000

set_option maxHeartbeats 8000000 in
theorem tseq_f72 {w0 W : World} {z g cap : Nat} (t : Tm) (h : TmB w0 W z g cap t) (hT : Tabs w0) (hR : 2 ≤ t.rows ∧ t.rows ≤ 100) (hC : 8 ≤ t.cols ∧ t.cols ≤ 200) (hL : t.cs.length = t.rows * t.cols) (hrow : t.row < t.rows) (hcol : t.col < t.cols) (hA : allW t.cs) (k r fin : Int) (pv : Value) (l : List Int) (hv : NumsV W pv l) (hl : l.length ≤ 100000) (h9 : ∀ x ∈ l, 0 ≤ x ∧ x ≤ 9999) (hf : fin = 72) :
    Calls Tryd.prog 55 #[.pointer (some ⟨z, 0, none⟩), .agg #[.int .i64 k, .int .i32 r, pv, .int .u8 fin]] W (Mv w0 W z g cap (seqM t l fin)) := by
  obtain ⟨R, C, cs, row, col, ⟨a, tx⟩, s, wt, bl⟩ := t
  obtain ⟨A, c, rfl⟩ := hv.form
  dsimp only at *
  have hsq : seqM ⟨R, C, cs, row, col, (a, tx), s, wt, bl⟩ l fin = ⟨R, C, cs, clipN (l.getD 0 0 - 1) R, clipN (l.getD 1 0 - 1) C, (a, tx), s, false, bl⟩ := by
    subst hf; rfl
  have HSQ := hide hsq
  clear hsq
  subst hf
  have h90 := getD_bd h9 0
  have h91 := getD_bd h9 1
  obtain ⟨nn, hnn⟩ : ∃ x, cs.length = x := ⟨_, rfl⟩
  have HNN := hide hnn
  have hn2 : nn ≤ 20000 := by rw [← hnn, hL]; exact Nat.le_trans (Nat.mul_le_mul hR.2 hC.2) (by decide)
  rw [hnn] at hL
  have HLL := hide hL
  have hbl : Below W.heap.size W (W.alloc (.cells #[.int .i64 k, .int .i32 r, .slice A l.length c, .int .u8 72] 72)) := (Below.refl _ _).alloc (Nat.le_refl _) _
  have HP := hide (fun (W' : World) (hb : Below W.heap.size W W') (i : Nat) (hi : i ≤ 1) => param_any k r 72 (.slice A l.length c) l i W' (hv.below hb) hl hi)
  have HNV := hide hv
  have HAL := hide hA
  have H0 := hide (h.low hbl)
  have HBX0 := hide (Blk.new W 72 [.int .i64 k, .int .i32 r, .slice A l.length c, .int .u8 72])
  have HBL := hide hbl
  obtain ⟨n, hn⟩ : ∃ n, l.getD 0 0 = n := ⟨_, rfl⟩
  obtain ⟨n1, hn1⟩ : ∃ n, l.getD 1 0 = n := ⟨_, rfl⟩
  rw [hn] at h90
  (try rw [hn] at HSQ)
  rw [hn1] at h91
  (try rw [hn1] at HSQ)
  have HP0 := hide (fun (W' : World) (hb : Below W.heap.size W W') => by have := HP.out W' hb 0 (by omega); rw [hn] at this; exact this)
  have HP1 := hide (fun (W' : World) (hb : Below W.heap.size W W') => by have := HP.out W' hb 1 (by omega); rw [hn1] at this; exact this)
  have hmb := max_one h90
  obtain ⟨m, hm⟩ : ∃ m, max n 1 = m := ⟨_, rfl⟩
  rw [hm] at hmb
  (try rw [hm] at HSQ)
  have HMB := hide hmb
  have n1_ := h90.1
  have n2_ := h90.2
  clear h hbl hv hn hn1 HP hmb hA h90 hnn hL
  obtain ⟨len, hlen⟩ : ∃ q, l.length = q := ⟨_, rfl⟩
  rw [hlen] at H0 HBX0 HBL HP0 HP1 HNV hl ⊢
  clear hlen
  obtain ⟨y, hy⟩ : ∃ q, W.heap.size = q := ⟨_, rfl⟩
  rw [show [Value.int .i64 k, .int .i32 r, .slice A len c, .int .u8 72].toArray = #[.int .i64 k, .int .i32 r, .slice A len c, .int .u8 72] from rfl] at HBX0
  obtain ⟨Wa, hWa⟩ : ∃ V, W.alloc (.cells #[.int .i64 k, .int .i32 r, .slice A len c, .int .u8 72] 72) = V := ⟨_, rfl⟩
  rw [hWa] at H0 HBX0 HBL
  rw [hy] at HBX0
  have e0 := HBX0.out.cell (i := 0) rfl
  have e1 := HBX0.out.cell (i := 1) rfl
  have e2 := HBX0.out.cell (i := 2) rfl
  have e3 := HBX0.out.cell (i := 3) rfl
  go_enter Tryd.func55, Tryd.ntmps55
  go_wp2_with fail
  (try rw [hWa])
  (try rw [hy])
  refine (HP0.out _ HBL.out).mono ?_; rintro e w1 ⟨rfl, hb1⟩
  have HB1 := hide (HBL.out.trans (hb1.mono HBL.out.size))
  have H1 := hide (H0.out.low hb1)
  have HBX := hide (HBX0.out.below hb1)
  have HNV1 := hide (HNV.out.below HB1.out)
  have K1 := hide (K2.of (z := z) (g := g) HB1.out)
  clear hb1 H0 HBX0 HBL e0 e1 e2 e3 HP0 HNV hWa
  obtain ⟨-, -, -, c3, -⟩ := H1.out.reads
  rw [HNN.out] at c3
  go_wp2_with fail
  (try rw [hm])
  go_region
  obtain ⟨U, hU, H2, K2'⟩ := named (R := fun V => (TmB w0 V z g cap ⟨R, C, cs, row, col, (a, tx), s, wt, bl⟩ ∧ Blk V y 72 [.int .i64 k, .int .i32 r, .slice A len c, .int .u8 72] ∧ NumsV V (.slice A len c) l ∧ Below W.heap.size W V) ∧ K2 z g W V) ⟨⟨H1.out.low (Below.refl _ _).drew, HBX.out.below (Below.refl _ _).drew, HNV1.out.below (Below.refl _ _).drew, HB1.out.drew⟩, K1.out.trans K2.drew⟩
  rw [hU]
  have HNV := hide H2.2.2.1
  have HBX := hide H2.2.1
  have HB1 := hide H2.2.2.2
  have H := hide H2.1
  have K := hide K2'
  clear hU H2 K2' H1 K1 c3 HNV1
  have e0 := HBX.out.cell (i := 0) rfl
  have e1 := HBX.out.cell (i := 1) rfl
  have e2 := HBX.out.cell (i := 2) rfl
  have e3 := HBX.out.cell (i := 3) rfl
  obtain ⟨-, c1, c2, -, c4, c5, -, -, -, -, -, -, c12, -⟩ := H.out.reads
  have bf := fun i => H.out.b.frozen i
  have hn1b := h91.1
  have hn2b := h91.2
  have HCL := hide (fun (w : World) => clip_any (n - 1) (R : Int) w (by omega) (by omega))
  have HCM := hide (fun (w : World) => clip_any (n1 - 1) (C : Int) w (by omega) (by omega))
  obtain ⟨q, hq⟩ : ∃ q, clipN (n - 1) (R : Int) = q := ⟨_, rfl⟩
  obtain ⟨q1, hq1⟩ : ∃ q, clipN (n1 - 1) (C : Int) = q := ⟨_, rfl⟩
  rw [hq] at HCL HSQ
  rw [hq1] at HCM HSQ
  clear hq hq1
  obtain ⟨v0, hv0⟩ : ∃ v, n - 1 = v := ⟨_, rfl⟩
  obtain ⟨v1, hv1⟩ : ∃ v, n1 - 1 = v := ⟨_, rfl⟩
  have hw0 : IntKind.i64.wrap (n - 1) = v0 := by simp only [IntKind.wrap_i64]; omega
  have hw1 : IntKind.i64.wrap (n1 - 1) = v1 := by simp only [IntKind.wrap_i64]; omega
  rw [hv0] at HCL
  rw [hv1] at HCM
  clear hv0 hv1
  go_wp2_with fail
  have HU := hide (show (TmB w0 U.drew z g cap ⟨R, C, cs, row, col, (a, tx), s, wt, bl⟩ ∧ Blk U.drew y 72 [.int .i64 k, .int .i32 r, .slice A len c, .int .u8 72]) ∧ Below W.heap.size W U.drew ∧ K2 z g W U.drew from ⟨⟨H.out.low (Below.refl _ _).drew, HBX.out.below (Below.refl _ _).drew⟩, HB1.out.drew, K.out.trans K2.drew⟩)
  clear c1 c2 c4 c5 c12 bf e0 e1 e2 e3 H HBX HB1 K HNV
  refine wp_region_held_drew (S := (fun W => W.cell? ⟨z, 1, none⟩ = some (.int .i64 (R : Int)) ∧ W.cell? ⟨z, 2, none⟩ = some (.int .i64 (C : Int)) ∧ W.cell? ⟨y, 0, none⟩ = some (.int .i64 k) ∧ W.cell? ⟨y, 1, none⟩ = some (.int .i32 r) ∧ W.cell? ⟨y, 2, none⟩ = some (.slice A len c) ∧ W.cell? ⟨y, 3, none⟩ = some (.int .u8 72))) (by kernel_rfl) ?_ (fun hHeld => ?_)
  · exact cells17 HU.out.1.1 HU.out.1.2
  refine wpAnyH_at (i := 0) (v := ?v0) (d := 74) rfl rfl (by kernel_rfl) (by kernel_rfl) (by kernel_rfl) (fun _ _ _ h => h) (Or.inl ⟨by rfl, fun w' hSw => ?hy0⟩) (by assumption) ?rest0
  case hy0 =>
    (try dsimp only at hSw)
    go_simp
    (try with_reducible rfl)
  (try simp only [Act.put, List.setIfInBounds_toArray, List.set_cons_zero, List.set_cons_succ])
  refine wpAnyH_at (i := 1) (v := ?v1) (d := 75) rfl rfl (by kernel_rfl) (by kernel_rfl) (by kernel_rfl) (fun _ _ _ h => h) (Or.inl ⟨by rfl, fun w' hSw => ?hy1⟩) (by assumption) ?rest1
  case hy1 =>
    (try dsimp only at hSw)
    go_simp
    (try with_reducible rfl)
  (try simp only [Act.put, List.setIfInBounds_toArray, List.set_cons_zero, List.set_cons_succ])
  refine wpAnyH_at (i := 2) (v := ?v2) (d := 76) rfl rfl (by kernel_rfl) (by kernel_rfl) (by kernel_rfl) (fun _ _ _ h => h) (Or.inl ⟨by rfl, fun w' hSw => ?hy2⟩) (by assumption) ?rest2
  case hy2 =>
    (try dsimp only at hSw)
    go_simp
    (try with_reducible rfl)
  (try simp only [Act.put, List.setIfInBounds_toArray, List.set_cons_zero, List.set_cons_succ])
  refine wpAnyH_at (i := 3) (v := ?v3) (d := 77) rfl rfl (by kernel_rfl) (by kernel_rfl) (by kernel_rfl) (fun _ _ _ h => h) (Or.inl ⟨by rfl, fun w' hSw => ?hy3⟩) (by assumption) ?rest3
  case hy3 =>
    (try dsimp only at hSw)
    go_simp
    (try with_reducible rfl)
  (try simp only [Act.put, List.setIfInBounds_toArray, List.set_cons_zero, List.set_cons_succ])
  refine wpAnyH_at (i := 4) (v := ?v4) (d := 78) rfl rfl (by kernel_rfl) (by kernel_rfl) (by kernel_rfl) (fun _ _ _ h => h) (Or.inl ⟨by rfl, fun w' hSw => ?hy4⟩) (by assumption) ?rest4
  case hy4 =>
    (try dsimp only at hSw)
    go_simp
    (try with_reducible rfl)
  (try simp only [Act.put, List.setIfInBounds_toArray, List.set_cons_zero, List.set_cons_succ])
  refine wpAnyH_at (i := 5) (v := ?v5) (d := 79) rfl rfl (by kernel_rfl) (by kernel_rfl) (by kernel_rfl) (fun _ _ _ h => h) (Or.inl ⟨by rfl, fun w' hSw => ?hy5⟩) (by assumption) ?rest5
  case hy5 =>
    (try dsimp only at hSw)
    go_simp
    (try with_reducible rfl)
  (try simp only [Act.put, List.setIfInBounds_toArray, List.set_cons_zero, List.set_cons_succ])
  refine wpAnyH_at (i := 6) (v := ?v6) (d := 80) rfl rfl (by kernel_rfl) (by kernel_rfl) (by kernel_rfl) (fun _ _ _ h => h) (Or.inl ⟨by rfl, fun w' hSw => ?hy6⟩) (by assumption) ?rest6
  case hy6 =>
    (try dsimp only at hSw)
    go_simp
    (try with_reducible rfl)
  (try simp only [Act.put, List.setIfInBounds_toArray, List.set_cons_zero, List.set_cons_succ])
  refine wpAnyH_at (i := 7) (v := ?v7) (d := 81) rfl rfl (by kernel_rfl) (by kernel_rfl) (by kernel_rfl) (fun _ _ _ h => h) (Or.inl ⟨by rfl, fun w' hSw => ?hy7⟩) (by assumption) ?rest7
  case hy7 =>
    (try dsimp only at hSw)
    go_simp
    (try with_reducible rfl)
  (try simp only [Act.put, List.setIfInBounds_toArray, List.set_cons_zero, List.set_cons_succ])
  refine wpAnyH_at (i := 8) (v := ?v8) (d := 82) rfl rfl (by kernel_rfl) (by kernel_rfl) (by kernel_rfl) (fun _ _ _ h => h) (Or.inl ⟨by rfl, fun w' hSw => ?hy8⟩) (by assumption) ?rest8
  case hy8 =>
    (try dsimp only at hSw)
    go_simp
    (try with_reducible rfl)
  (try simp only [Act.put, List.setIfInBounds_toArray, List.set_cons_zero, List.set_cons_succ])
  refine wpAnyH_at (i := 10) (v := ?v10) (d := 84) rfl rfl (by kernel_rfl) (by kernel_rfl) (by kernel_rfl) (fun _ _ _ h => h) (Or.inl ⟨by rfl, fun w' hSw => ?hy10⟩) (by assumption) ?rest10
  case hy10 =>
    (try dsimp only at hSw)
    go_simp
    (try with_reducible rfl)
  (try simp only [Act.put, List.setIfInBounds_toArray, List.set_cons_zero, List.set_cons_succ])
  refine wpAnyH_at (i := 13) (v := ?v13) (d := 87) rfl rfl (by kernel_rfl) (by kernel_rfl) (by kernel_rfl) (fun _ _ _ h => h) (Or.inl ⟨by rfl, fun w' hSw => ?hy13⟩) (by assumption) ?rest13
  case hy13 =>
    (try dsimp only at hSw)
    go_simp
    (try with_reducible rfl)
  (try simp only [Act.put, List.setIfInBounds_toArray, List.set_cons_zero, List.set_cons_succ])
  refine wpAnyH_at (i := 14) (v := ?v14) (d := 88) rfl rfl (by kernel_rfl) (by kernel_rfl) (by kernel_rfl) (fun _ _ _ h => h) (Or.inl ⟨by rfl, fun w' hSw => ?hy14⟩) (by assumption) ?rest14
  case hy14 =>
    (try dsimp only at hSw)
    go_simp
    (try with_reducible rfl)
  (try simp only [Act.put, List.setIfInBounds_toArray, List.set_cons_zero, List.set_cons_succ])
  refine wpAnyH_at (i := 15) (v := ?v15) (d := 89) rfl rfl (by kernel_rfl) (by kernel_rfl) (by kernel_rfl) (fun _ _ _ h => h) (Or.inl ⟨by rfl, fun w' hSw => ?hy15⟩) (by assumption) ?rest15
  case hy15 =>
    (try dsimp only at hSw)
    go_simp
    (try with_reducible rfl)
  (try simp only [Act.put, List.setIfInBounds_toArray, List.set_cons_zero, List.set_cons_succ])
  refine wpAnyH_at (i := 16) (v := ?v16) (d := 90) rfl rfl (by kernel_rfl) (by kernel_rfl) (by kernel_rfl) (fun _ _ _ h => h) (Or.inl ⟨by rfl, fun w' hSw => ?hy16⟩) (by assumption) ?rest16
  case hy16 =>
    (try dsimp only at hSw)
    go_simp
    (try with_reducible rfl)
  (try simp only [Act.put, List.setIfInBounds_toArray, List.set_cons_zero, List.set_cons_succ])
  refine wpAnyH_at (i := 17) (v := ?v17) (d := 91) rfl rfl (by kernel_rfl) (by kernel_rfl) (by kernel_rfl) (fun _ _ _ h => h) (Or.inl ⟨by rfl, fun w' hSw => ?hy17⟩) (by assumption) ?rest17
  case hy17 =>
    (try dsimp only at hSw)
    go_simp
    (try with_reducible rfl)
  (try simp only [Act.put, List.setIfInBounds_toArray, List.set_cons_zero, List.set_cons_succ])
  refine wpAnyH_ready (rs := [9]) (by kernel_rfl) (by simp) ?_
  refine AllReadyH.cons rfl (fun K' hK' => ?_) AllReadyH.nil
  go_simp
  refine (HCL.out _).mono ?_; rintro e w8 ⟨rfl, rfl⟩
  go_wp2_with fail
  refine hK'.out _ _ ?_ (fun hHeld => ?_)
  · exact cells17 HU.out.1.1 HU.out.1.2
  clear hK' K'
  (try simp only [Act.put, List.getElem_toArray, List.getElem_cons_succ, List.getElem_cons_zero, List.setIfInBounds_toArray, List.set_cons_zero, List.set_cons_succ])
  refine wpAnyH_ready (rs := [11]) (by kernel_rfl) (by simp) ?_
  refine AllReadyH.cons rfl (fun K' hK' => ?_) AllReadyH.nil
  go_simp
  refine (HP1.out _ HU.out.2.1).mono ?_; rintro e w8 ⟨rfl, hb8⟩
  have HV := hide (show (TmB w0 w8 z g cap ⟨R, C, cs, row, col, (a, tx), s, wt, bl⟩ ∧ Blk w8 y 72 [.int .i64 k, .int .i32 r, .slice A len c, .int .u8 72]) ∧ K2 z g W w8 from ⟨⟨HU.out.1.1.low hb8, HU.out.1.2.below hb8⟩, HU.out.2.2.trans (K2.of hb8)⟩)
  clear hb8 HU
  go_wp2_with fail
  refine hK'.out _ _ ?_ (fun hHeld => ?_)
  · exact cells17 HV.out.1.1 HV.out.1.2
  clear hK' K'
  (try simp only [Act.put, List.getElem_toArray, List.getElem_cons_succ, List.getElem_cons_zero, List.setIfInBounds_toArray, List.set_cons_zero, List.set_cons_succ])
  refine wpAnyH_at (i := 12) (v := ?v12) (d := 86) rfl rfl (by kernel_rfl) (by kernel_rfl) (by kernel_rfl) (fun _ _ _ h => h) (Or.inl ⟨by rfl, fun w' hSw => ?hy12⟩) (by assumption) ?rest12
  case hy12 =>
    (try dsimp only at hSw)
    go_simp
    (try with_reducible rfl)
  (try simp only [Act.put, List.setIfInBounds_toArray, List.set_cons_zero, List.set_cons_succ])
  refine wpAnyH_ready (rs := [18]) (by kernel_rfl) (by simp) ?_
  refine AllReadyH.cons rfl (fun K' hK' => ?_) AllReadyH.nil
  go_simp
  refine (HCM.out _).mono ?_; rintro e w8 ⟨rfl, rfl⟩
  go_wp2_with fail
  refine hK'.out _ _ ?_ (fun hHeld => ?_)
  · exact cells17 HV.out.1.1 HV.out.1.2
  clear hK' K'
  (try simp only [Act.put, List.getElem_toArray, List.getElem_cons_succ, List.getElem_cons_zero, List.setIfInBounds_toArray, List.set_cons_zero, List.set_cons_succ])
  refine wpAnyH_at (i := 19) (v := ?v19) (d := 93) rfl rfl (by kernel_rfl) (by kernel_rfl) (by kernel_rfl) (fun _ _ _ h => h) (Or.inl ⟨by rfl, fun w' hSw => ?hy19⟩) (by assumption) ?rest19
  case hy19 =>
    (try dsimp only at hSw)
    go_simp
    (try with_reducible rfl)
  (try simp only [Act.put, List.setIfInBounds_toArray, List.set_cons_zero, List.set_cons_succ])
  refine wpAnyH_at (i := 20) (v := ?v20) (d := 94) rfl rfl (by kernel_rfl) (by kernel_rfl) (by kernel_rfl) (fun _ _ _ h => h) (Or.inl ⟨by rfl, fun w' hSw => ?hy20⟩) (by assumption) ?rest20
  case hy20 =>
    (try dsimp only at hSw)
    go_simp
    (try with_reducible rfl)
  (try simp only [Act.put, List.setIfInBounds_toArray, List.set_cons_zero, List.set_cons_succ])
  refine wpAnyH_at (i := 21) (v := ?v21) (d := 95) rfl rfl (by kernel_rfl) (by kernel_rfl) (by kernel_rfl) (fun _ _ _ h => h) (Or.inl ⟨by rfl, fun w' hSw => ?hy21⟩) (by assumption) ?rest21
  case hy21 =>
    (try dsimp only at hSw)
    go_simp
    (try with_reducible rfl)
  (try simp only [Act.put, List.setIfInBounds_toArray, List.set_cons_zero, List.set_cons_succ])
  obtain ⟨-, c1, c2, -, c4, c5, -⟩ := HV.out.1.1.reads
  have bf := fun i => HV.out.1.1.b.frozen i
  have hyz : y ≠ z := fun e => blk_ne HV.out.1.2 HV.out.1.1.b (by decide) e
  have H4 := hide (HV.out.1.1.setZ ⟨R, C, cs, q, col, (a, tx), s, wt, bl⟩ 4 (.int .i64 (q : Int)) rfl rfl)
  have X4 := hide (HV.out.1.2.far (p := ⟨z, 4, none⟩) (fun e => hyz e.symm) (.int .i64 (q : Int)))
  refine wpAnyH_ready (rs := [22]) (by kernel_rfl) (by simp) ?_
  refine AllReadyH.cons rfl (fun K' hK' => ?_) AllReadyH.nil
  go_simp
  refine hK'.out _ _ ?_ (fun hHeld => ?_)
  · exact cells17 H4.out X4.out
  clear hK' K'
  (try simp only [Act.put, List.getElem_toArray, List.getElem_cons_succ, List.getElem_cons_zero, List.setIfInBounds_toArray, List.set_cons_zero, List.set_cons_succ])
  refine wpAnyH_at (i := 23) (v := ?v23) (d := 96) rfl rfl (by kernel_rfl) (by kernel_rfl) (by kernel_rfl) (fun _ _ _ h => h) (Or.inl ⟨by rfl, fun w' hSw => ?hy23⟩) (by assumption) ?rest23
  case hy23 =>
    (try dsimp only at hSw)
    go_simp
    (try with_reducible rfl)
  (try simp only [Act.put, List.setIfInBounds_toArray, List.set_cons_zero, List.set_cons_succ])
  refine wpAnyH_at (i := 24) (v := ?v24) (d := 97) rfl rfl (by kernel_rfl) (by kernel_rfl) (by kernel_rfl) (fun _ _ _ h => h) (Or.inl ⟨by rfl, fun w' hSw => ?hy24⟩) (by assumption) ?rest24
  case hy24 =>
    (try dsimp only at hSw)
    go_simp
    (try with_reducible rfl)
  (try simp only [Act.put, List.setIfInBounds_toArray, List.set_cons_zero, List.set_cons_succ])
  refine wpAnyH_at (i := 25) (v := ?v25) (d := 98) rfl rfl (by kernel_rfl) (by kernel_rfl) (by kernel_rfl) (fun _ _ _ h => h) (Or.inl ⟨by rfl, fun w' hSw => ?hy25⟩) (by assumption) ?rest25
  case hy25 =>
    (try dsimp only at hSw)
    go_simp
    (try with_reducible rfl)
  (try simp only [Act.put, List.setIfInBounds_toArray, List.set_cons_zero, List.set_cons_succ])
  obtain ⟨V, hV⟩ : ∃ V, w8.setCell ⟨z, 4, none⟩ (.int .i64 (q : Int)) = V := ⟨_, rfl⟩
  have K4 := hide (show K2 z g W V by rw [← hV]; exact HV.out.2.trans (K2.set _ _ _ _ _))
  rw [hV] at H4 X4
  rw [hV]
  clear hV c1 c2 c4 c5 bf HV
  obtain ⟨-, c1, c2, -, c4, c5, -, -, -, -, -, -, c12, -⟩ := H4.out.reads
  have bf := fun i => H4.out.b.frozen i
  have H5 := hide (H4.out.setZ ⟨R, C, cs, q, q1, (a, tx), s, wt, bl⟩ 5 (.int .i64 (q1 : Int)) rfl rfl)
  have X5 := hide (X4.out.far (p := ⟨z, 5, none⟩) (fun e => hyz e.symm) (.int .i64 (q1 : Int)))
  refine wpAnyH_ready (rs := [26]) (by kernel_rfl) (by simp) ?_
  refine AllReadyH.cons rfl (fun K' hK' => ?_) AllReadyH.nil
  go_simp
  refine hK'.out _ _ ?_ (fun hHeld => ?_)
  · exact cells17 H5.out X5.out
  clear hK' K'
  (try simp only [Act.put, List.getElem_toArray, List.getElem_cons_succ, List.getElem_cons_zero, List.setIfInBounds_toArray, List.set_cons_zero, List.set_cons_succ])
  refine wpAnyH_done (by kernel_rfl) ?_ _
  obtain ⟨V2, hV⟩ : ∃ V2, V.setCell ⟨z, 5, none⟩ (.int .i64 (q1 : Int)) = V2 := ⟨_, rfl⟩
  have K5 := hide (show K2 z g W V2 by rw [← hV]; exact K4.out.trans (K2.set _ _ _ _ _))
  rw [hV] at H5
  rw [hV]
  clear hV c1 c2 c4 c5 bf c12
  obtain ⟨-, -, -, -, -, -, -, -, -, -, -, -, c12, -⟩ := H5.out.reads
  have bf := fun i => H5.out.b.frozen i
  go_wp2
  go_end0
  rw [HSQ.out]
  exact Mv.mk (H5.out.setZ ⟨R, C, cs, q, q1, (a, tx), s, false, bl⟩ 12 (.bool false) rfl rfl) (K5.out.trans (K2.set _ _ _ _ _))
end Go.Proofs.YtmemdhmjhckmaaaDoor
namespace Go.Proofs.YtmemdhmjhckmaaaDoor
open Go.RowKit
set_option maxRecDepth 100000

set_option maxHeartbeats 8000000 in
theorem tseq_f74 {w0 W : World} {z g cap : Nat} (t : Tm) (h : TmB w0 W z g cap t) (hT : Tabs w0) (hR : 2 ≤ t.rows ∧ t.rows ≤ 100) (hC : 8 ≤ t.cols ∧ t.cols ≤ 200) (hL : t.cs.length = t.rows * t.cols) (hrow : t.row < t.rows) (hcol : t.col < t.cols) (hA : allW t.cs) (k r fin : Int) (pv : Value) (l : List Int) (hv : NumsV W pv l) (hl : l.length ≤ 100000) (h9 : ∀ x ∈ l, 0 ≤ x ∧ x ≤ 9999) (hf : fin = 74) :
    Calls Tryd.prog 55 #[.pointer (some ⟨z, 0, none⟩), .agg #[.int .i64 k, .int .i32 r, pv, .int .u8 fin]] W (Mv w0 W z g cap (seqM t l fin)) := by
  obtain ⟨R, C, cs, row, col, ⟨a, tx⟩, s, wt, bl⟩ := t
  obtain ⟨A, c, rfl⟩ := hv.form
  dsimp only at *
  have hsq : ∀ cs2, clearM ⟨R, C, cs, row, col, (a, tx), s, wt, bl⟩ (l.getD 0 0) 0 cs.length = ⟨R, C, cs2, row, col, (a, tx), s, wt, bl⟩ → seqM ⟨R, C, cs, row, col, (a, tx), s, wt, bl⟩ l fin = ⟨R, C, cs2, row, col, (a, tx), s, false, bl⟩ := by
    subst hf
    intro cs2 h
    show ({ clearM ⟨R, C, cs, row, col, (a, tx), s, wt, bl⟩ (l.getD 0 0) 0 cs.length with waits := false } : Tm) = _
    rw [h]
  have HSQ := hide hsq
  clear hsq
  subst hf
  have h90 := getD_bd h9 0
  have h91 := getD_bd h9 1
  obtain ⟨nn, hnn⟩ : ∃ x, cs.length = x := ⟨_, rfl⟩
  have HNN := hide hnn
  have hn2 : nn ≤ 20000 := by rw [← hnn, hL]; exact Nat.le_trans (Nat.mul_le_mul hR.2 hC.2) (by decide)
  rw [hnn] at hL
  have HLL := hide hL
  have hbl : Below W.heap.size W (W.alloc (.cells #[.int .i64 k, .int .i32 r, .slice A l.length c, .int .u8 74] 72)) := (Below.refl _ _).alloc (Nat.le_refl _) _
  have HP := hide (fun (W' : World) (hb : Below W.heap.size W W') (i : Nat) (hi : i ≤ 1) => param_any k r 74 (.slice A l.length c) l i W' (hv.below hb) hl hi)
  have HNV := hide hv
  have HAL := hide hA
  have H0 := hide (h.low hbl)
  have HBX0 := hide (Blk.new W 72 [.int .i64 k, .int .i32 r, .slice A l.length c, .int .u8 74])
  have HBL := hide hbl
  obtain ⟨n, hn⟩ : ∃ n, l.getD 0 0 = n := ⟨_, rfl⟩
  obtain ⟨n1, hn1⟩ : ∃ n, l.getD 1 0 = n := ⟨_, rfl⟩
  rw [hn] at h90
  (try rw [hn] at HSQ)
  rw [hn1] at h91
  (try rw [hn1] at HSQ)
  have HP0 := hide (fun (W' : World) (hb : Below W.heap.size W W') => by have := HP.out W' hb 0 (by omega); rw [hn] at this; exact this)
  have HP1 := hide (fun (W' : World) (hb : Below W.heap.size W W') => by have := HP.out W' hb 1 (by omega); rw [hn1] at this; exact this)
  have hmb := max_one h90
  obtain ⟨m, hm⟩ : ∃ m, max n 1 = m := ⟨_, rfl⟩
  rw [hm] at hmb
  (try rw [hm] at HSQ)
  have HMB := hide hmb
  have n1_ := h90.1
  have n2_ := h90.2
  clear h hbl hv hn hn1 HP hmb hA h90 hnn hL
  obtain ⟨len, hlen⟩ : ∃ q, l.length = q := ⟨_, rfl⟩
  rw [hlen] at H0 HBX0 HBL HP0 HP1 HNV hl ⊢
  clear hlen
  obtain ⟨y, hy⟩ : ∃ q, W.heap.size = q := ⟨_, rfl⟩
  rw [show [Value.int .i64 k, .int .i32 r, .slice A len c, .int .u8 74].toArray = #[.int .i64 k, .int .i32 r, .slice A len c, .int .u8 74] from rfl] at HBX0
  obtain ⟨Wa, hWa⟩ : ∃ V, W.alloc (.cells #[.int .i64 k, .int .i32 r, .slice A len c, .int .u8 74] 72) = V := ⟨_, rfl⟩
  rw [hWa] at H0 HBX0 HBL
  rw [hy] at HBX0
  have e0 := HBX0.out.cell (i := 0) rfl
  have e1 := HBX0.out.cell (i := 1) rfl
  have e2 := HBX0.out.cell (i := 2) rfl
  have e3 := HBX0.out.cell (i := 3) rfl
  go_enter Tryd.func55, Tryd.ntmps55
  go_wp2_with fail
  (try rw [hWa])
  (try rw [hy])
  refine (HP0.out _ HBL.out).mono ?_; rintro e w1 ⟨rfl, hb1⟩
  have HB1 := hide (HBL.out.trans (hb1.mono HBL.out.size))
  have H1 := hide (H0.out.low hb1)
  have HBX := hide (HBX0.out.below hb1)
  have HNV1 := hide (HNV.out.below HB1.out)
  have K1 := hide (K2.of (z := z) (g := g) HB1.out)
  clear hb1 H0 HBX0 HBL e0 e1 e2 e3 HP0 HNV hWa
  obtain ⟨-, -, -, c3, -⟩ := H1.out.reads
  rw [HNN.out] at c3
  go_wp2_with fail
  (try rw [hm])
  go_region
  obtain ⟨U, hU, H2, K2'⟩ := named (R := fun V => (TmB w0 V z g cap ⟨R, C, cs, row, col, (a, tx), s, wt, bl⟩ ∧ Blk V y 72 [.int .i64 k, .int .i32 r, .slice A len c, .int .u8 74] ∧ NumsV V (.slice A len c) l ∧ Below W.heap.size W V) ∧ K2 z g W V) ⟨⟨H1.out.low (Below.refl _ _).drew, HBX.out.below (Below.refl _ _).drew, HNV1.out.below (Below.refl _ _).drew, HB1.out.drew⟩, K1.out.trans K2.drew⟩
  rw [hU]
  have HNV := hide H2.2.2.1
  have HBX := hide H2.2.1
  have HB1 := hide H2.2.2.2
  have H := hide H2.1
  have K := hide K2'
  clear hU H2 K2' H1 K1 c3 HNV1
  have e0 := HBX.out.cell (i := 0) rfl
  have e1 := HBX.out.cell (i := 1) rfl
  have e2 := HBX.out.cell (i := 2) rfl
  have e3 := HBX.out.cell (i := 3) rfl
  rw [HNN.out] at HSQ
  obtain ⟨cs2, hcs2⟩ := clear_form R C cs row col (a, tx) s wt bl n 0 nn
  have HS2 := hide (HSQ.out cs2 hcs2)
  have HCS := hide hcs2
  clear HSQ hcs2
  go_wp2_with fail
  refine (tclear_any _ H.out hT (by dsimp only; omega) (by dsimp only; rw [HNN.out]; exact HLL.out) hrow hcol (by dsimp only; exact HAL.out) n 0 nn (by omega) (by dsimp only; rw [HNN.out]; exact Nat.le_refl _)).mono ?_; rintro e w9 ⟨rfl, H3, K3⟩
  rw [HCS.out] at H3
  have H3 := hide H3
  have K4 := hide (K.out.trans K3)
  clear K3
  obtain ⟨-, -, -, -, -, -, -, -, -, -, -, -, c12, -⟩ := H3.out.reads
  have bf := fun i => H3.out.b.frozen i
  go_wp2
  go_end0
  rw [HS2.out]
  exact Mv.mk (H3.out.setZ ⟨R, C, cs2, row, col, (a, tx), s, false, bl⟩ 12 (.bool false) rfl rfl) (K4.out.trans (K2.set _ _ _ _ _))
end Go.Proofs.YtmemdhmjhckmaaaDoor
namespace Go.Proofs.YtmemdhmjhckmaaaDoor
open Go.RowKit
set_option maxRecDepth 100000

set_option maxHeartbeats 8000000 in
theorem tseq_f75 {w0 W : World} {z g cap : Nat} (t : Tm) (h : TmB w0 W z g cap t) (hT : Tabs w0) (hR : 2 ≤ t.rows ∧ t.rows ≤ 100) (hC : 8 ≤ t.cols ∧ t.cols ≤ 200) (hL : t.cs.length = t.rows * t.cols) (hrow : t.row < t.rows) (hcol : t.col < t.cols) (hA : allW t.cs) (k r fin : Int) (pv : Value) (l : List Int) (hv : NumsV W pv l) (hl : l.length ≤ 100000) (h9 : ∀ x ∈ l, 0 ≤ x ∧ x ≤ 9999) (hf : fin = 75) :
    Calls Tryd.prog 55 #[.pointer (some ⟨z, 0, none⟩), .agg #[.int .i64 k, .int .i32 r, pv, .int .u8 fin]] W (Mv w0 W z g cap (seqM t l fin)) := by
  obtain ⟨R, C, cs, row, col, ⟨a, tx⟩, s, wt, bl⟩ := t
  obtain ⟨A, c, rfl⟩ := hv.form
  dsimp only at *
  have hsq : ∀ cs2, clearM ⟨R, C, cs, row, col, (a, tx), s, wt, bl⟩ (l.getD 0 0) (row * C) (row * C + C) = ⟨R, C, cs2, row, col, (a, tx), s, wt, bl⟩ → seqM ⟨R, C, cs, row, col, (a, tx), s, wt, bl⟩ l fin = ⟨R, C, cs2, row, col, (a, tx), s, false, bl⟩ := by
    subst hf
    intro cs2 h
    show ({ clearM ⟨R, C, cs, row, col, (a, tx), s, wt, bl⟩ (l.getD 0 0) (row * C) (row * C + C) with waits := false } : Tm) = _
    rw [h]
  have HSQ := hide hsq
  clear hsq
  subst hf
  have h90 := getD_bd h9 0
  have h91 := getD_bd h9 1
  obtain ⟨nn, hnn⟩ : ∃ x, cs.length = x := ⟨_, rfl⟩
  have HNN := hide hnn
  have hn2 : nn ≤ 20000 := by rw [← hnn, hL]; exact Nat.le_trans (Nat.mul_le_mul hR.2 hC.2) (by decide)
  rw [hnn] at hL
  have HLL := hide hL
  have hbl : Below W.heap.size W (W.alloc (.cells #[.int .i64 k, .int .i32 r, .slice A l.length c, .int .u8 75] 72)) := (Below.refl _ _).alloc (Nat.le_refl _) _
  have HP := hide (fun (W' : World) (hb : Below W.heap.size W W') (i : Nat) (hi : i ≤ 1) => param_any k r 75 (.slice A l.length c) l i W' (hv.below hb) hl hi)
  have HNV := hide hv
  have HAL := hide hA
  have H0 := hide (h.low hbl)
  have HBX0 := hide (Blk.new W 72 [.int .i64 k, .int .i32 r, .slice A l.length c, .int .u8 75])
  have HBL := hide hbl
  obtain ⟨n, hn⟩ : ∃ n, l.getD 0 0 = n := ⟨_, rfl⟩
  obtain ⟨n1, hn1⟩ : ∃ n, l.getD 1 0 = n := ⟨_, rfl⟩
  rw [hn] at h90
  (try rw [hn] at HSQ)
  rw [hn1] at h91
  (try rw [hn1] at HSQ)
  have HP0 := hide (fun (W' : World) (hb : Below W.heap.size W W') => by have := HP.out W' hb 0 (by omega); rw [hn] at this; exact this)
  have HP1 := hide (fun (W' : World) (hb : Below W.heap.size W W') => by have := HP.out W' hb 1 (by omega); rw [hn1] at this; exact this)
  have hmb := max_one h90
  obtain ⟨m, hm⟩ : ∃ m, max n 1 = m := ⟨_, rfl⟩
  rw [hm] at hmb
  (try rw [hm] at HSQ)
  have HMB := hide hmb
  have n1_ := h90.1
  have n2_ := h90.2
  clear h hbl hv hn hn1 HP hmb hA h90 hnn hL
  obtain ⟨len, hlen⟩ : ∃ q, l.length = q := ⟨_, rfl⟩
  rw [hlen] at H0 HBX0 HBL HP0 HP1 HNV hl ⊢
  clear hlen
  obtain ⟨y, hy⟩ : ∃ q, W.heap.size = q := ⟨_, rfl⟩
  rw [show [Value.int .i64 k, .int .i32 r, .slice A len c, .int .u8 75].toArray = #[.int .i64 k, .int .i32 r, .slice A len c, .int .u8 75] from rfl] at HBX0
  obtain ⟨Wa, hWa⟩ : ∃ V, W.alloc (.cells #[.int .i64 k, .int .i32 r, .slice A len c, .int .u8 75] 72) = V := ⟨_, rfl⟩
  rw [hWa] at H0 HBX0 HBL
  rw [hy] at HBX0
  have e0 := HBX0.out.cell (i := 0) rfl
  have e1 := HBX0.out.cell (i := 1) rfl
  have e2 := HBX0.out.cell (i := 2) rfl
  have e3 := HBX0.out.cell (i := 3) rfl
  go_enter Tryd.func55, Tryd.ntmps55
  go_wp2_with fail
  (try rw [hWa])
  (try rw [hy])
  refine (HP0.out _ HBL.out).mono ?_; rintro e w1 ⟨rfl, hb1⟩
  have HB1 := hide (HBL.out.trans (hb1.mono HBL.out.size))
  have H1 := hide (H0.out.low hb1)
  have HBX := hide (HBX0.out.below hb1)
  have HNV1 := hide (HNV.out.below HB1.out)
  have K1 := hide (K2.of (z := z) (g := g) HB1.out)
  clear hb1 H0 HBX0 HBL e0 e1 e2 e3 HP0 HNV hWa
  obtain ⟨-, -, -, c3, -⟩ := H1.out.reads
  rw [HNN.out] at c3
  go_wp2_with fail
  (try rw [hm])
  go_region
  obtain ⟨U, hU, H2, K2'⟩ := named (R := fun V => (TmB w0 V z g cap ⟨R, C, cs, row, col, (a, tx), s, wt, bl⟩ ∧ Blk V y 72 [.int .i64 k, .int .i32 r, .slice A len c, .int .u8 75] ∧ NumsV V (.slice A len c) l ∧ Below W.heap.size W V) ∧ K2 z g W V) ⟨⟨H1.out.low (Below.refl _ _).drew, HBX.out.below (Below.refl _ _).drew, HNV1.out.below (Below.refl _ _).drew, HB1.out.drew⟩, K1.out.trans K2.drew⟩
  rw [hU]
  have HNV := hide H2.2.2.1
  have HBX := hide H2.2.1
  have HB1 := hide H2.2.2.2
  have H := hide H2.1
  have K := hide K2'
  clear hU H2 K2' H1 K1 c3 HNV1
  have e0 := HBX.out.cell (i := 0) rfl
  have e1 := HBX.out.cell (i := 1) rfl
  have e2 := HBX.out.cell (i := 2) rfl
  have e3 := HBX.out.cell (i := 3) rfl
  obtain ⟨p, hp⟩ : ∃ q, row * C = q := ⟨_, rfl⟩
  have hpn : p + C ≤ nn := by
    have h1 : (row + 1) * C ≤ R * C := Nat.mul_le_mul_right C (by omega)
    rw [Nat.add_mul, Nat.one_mul, hp, ← HLL.out] at h1
    exact h1
  have hpw := wrap_mul hp (by omega)
  rw [hp] at HSQ
  obtain ⟨pc, hpc⟩ : ∃ q, p + C = q := ⟨_, rfl⟩
  have hpcw : IntKind.i64.wrap ((p : Int) + (C : Int)) = (pc : Int) := (Go.wrap_small _ (by omega) (by omega)).trans (by omega)
  have hppc : p ≤ pc := by omega
  rw [hpc] at HSQ hpn
  clear hp hpc
  obtain ⟨cs2, hcs2⟩ := clear_form R C cs row col (a, tx) s wt bl n p pc
  have HS2 := hide (HSQ.out cs2 hcs2)
  have HCS := hide hcs2
  clear HSQ hcs2
  obtain ⟨-, -, c2, -, c4, -⟩ := H.out.reads
  go_wp2_with fail
  go_region
  obtain ⟨U2, hU, H2, K2'⟩ := named (R := fun V => TmB w0 V z g cap ⟨R, C, cs, row, col, (a, tx), s, wt, bl⟩ ∧ K2 z g W V) ⟨H.out.low (Below.refl _ _).drew, K.out.trans K2.drew⟩
  rw [hU]
  replace H := hide H2
  replace K := hide K2'
  clear hU H2 K2' c2 c4 e0 e1 e2 e3 HBX HB1 HNV
  obtain ⟨-, -, c2, -⟩ := H.out.reads
  go_wp2_with fail
  refine (tclear_any _ H.out hT (by dsimp only; omega) (by dsimp only; rw [HNN.out]; exact HLL.out) hrow hcol (by dsimp only; exact HAL.out) n p pc hppc (by dsimp only; rw [HNN.out]; exact hpn)).mono ?_; rintro e w9 ⟨rfl, H3, K3⟩
  rw [HCS.out] at H3
  have H3 := hide H3
  have K4 := hide (K.out.trans K3)
  clear K3
  obtain ⟨-, -, -, -, -, -, -, -, -, -, -, -, c12, -⟩ := H3.out.reads
  have bf := fun i => H3.out.b.frozen i
  go_wp2
  go_end0
  rw [HS2.out]
  exact Mv.mk (H3.out.setZ ⟨R, C, cs2, row, col, (a, tx), s, false, bl⟩ 12 (.bool false) rfl rfl) (K4.out.trans (K2.set _ _ _ _ _))
end Go.Proofs.YtmemdhmjhckmaaaDoor
namespace Go.Proofs.YtmemdhmjhckmaaaDoor
open Go.RowKit
set_option maxRecDepth 100000

set_option maxHeartbeats 8000000 in
theorem tseq_f109 {w0 W : World} {z g cap : Nat} (t : Tm) (h : TmB w0 W z g cap t) (hT : Tabs w0) (hR : 2 ≤ t.rows ∧ t.rows ≤ 100) (hC : 8 ≤ t.cols ∧ t.cols ≤ 200) (hL : t.cs.length = t.rows * t.cols) (hrow : t.row < t.rows) (hcol : t.col < t.cols) (hA : allW t.cs) (k r fin : Int) (pv : Value) (l : List Int) (hv : NumsV W pv l) (hl : l.length ≤ 100000) (h9 : ∀ x ∈ l, 0 ≤ x ∧ x ≤ 9999) (hf : fin = 109) :
    Calls Tryd.prog 55 #[.pointer (some ⟨z, 0, none⟩), .agg #[.int .i64 k, .int .i32 r, pv, .int .u8 fin]] W (Mv w0 W z g cap (seqM t l fin)) := by
  obtain ⟨R, C, cs, row, col, ⟨a, tx⟩, s, wt, bl⟩ := t
  obtain ⟨A, c, rfl⟩ := hv.form
  dsimp only at *
  have hsq : seqM ⟨R, C, cs, row, col, (a, tx), s, wt, bl⟩ l fin = lookM ⟨R, C, cs, row, col, (a, tx), s, wt, bl⟩ l := by
    subst hf; rfl
  have HSQ := hide hsq
  clear hsq
  subst hf
  have H9 := hide h9
  have h90 := getD_bd h9 0
  have h91 := getD_bd h9 1
  obtain ⟨nn, hnn⟩ : ∃ x, cs.length = x := ⟨_, rfl⟩
  have HNN := hide hnn
  have hn2 : nn ≤ 20000 := by rw [← hnn, hL]; exact Nat.le_trans (Nat.mul_le_mul hR.2 hC.2) (by decide)
  rw [hnn] at hL
  have HLL := hide hL
  have hbl : Below W.heap.size W (W.alloc (.cells #[.int .i64 k, .int .i32 r, .slice A l.length c, .int .u8 109] 72)) := (Below.refl _ _).alloc (Nat.le_refl _) _
  have HP := hide (fun (W' : World) (hb : Below W.heap.size W W') (i : Nat) (hi : i ≤ 1) => param_any k r 109 (.slice A l.length c) l i W' (hv.below hb) hl hi)
  have HNV := hide hv
  have HAL := hide hA
  have H0 := hide (h.low hbl)
  have HBX0 := hide (Blk.new W 72 [.int .i64 k, .int .i32 r, .slice A l.length c, .int .u8 109])
  have HBL := hide hbl
  obtain ⟨n, hn⟩ : ∃ n, l.getD 0 0 = n := ⟨_, rfl⟩
  obtain ⟨n1, hn1⟩ : ∃ n, l.getD 1 0 = n := ⟨_, rfl⟩
  rw [hn] at h90
  (try rw [hn] at HSQ)
  rw [hn1] at h91
  (try rw [hn1] at HSQ)
  have HP0 := hide (fun (W' : World) (hb : Below W.heap.size W W') => by have := HP.out W' hb 0 (by omega); rw [hn] at this; exact this)
  have HP1 := hide (fun (W' : World) (hb : Below W.heap.size W W') => by have := HP.out W' hb 1 (by omega); rw [hn1] at this; exact this)
  have hmb := max_one h90
  obtain ⟨m, hm⟩ : ∃ m, max n 1 = m := ⟨_, rfl⟩
  rw [hm] at hmb
  (try rw [hm] at HSQ)
  have HMB := hide hmb
  have n1_ := h90.1
  have n2_ := h90.2
  clear h hbl hv hn hn1 HP hmb hA h90 hnn hL
  obtain ⟨len, hlen⟩ : ∃ q, l.length = q := ⟨_, rfl⟩
  have HLN := hide hlen
  rw [hlen] at H0 HBX0 HBL HP0 HP1 HNV hl ⊢
  clear hlen
  obtain ⟨y, hy⟩ : ∃ q, W.heap.size = q := ⟨_, rfl⟩
  rw [show [Value.int .i64 k, .int .i32 r, .slice A len c, .int .u8 109].toArray = #[.int .i64 k, .int .i32 r, .slice A len c, .int .u8 109] from rfl] at HBX0
  obtain ⟨Wa, hWa⟩ : ∃ V, W.alloc (.cells #[.int .i64 k, .int .i32 r, .slice A len c, .int .u8 109] 72) = V := ⟨_, rfl⟩
  rw [hWa] at H0 HBX0 HBL
  rw [hy] at HBX0
  have e0 := HBX0.out.cell (i := 0) rfl
  have e1 := HBX0.out.cell (i := 1) rfl
  have e2 := HBX0.out.cell (i := 2) rfl
  have e3 := HBX0.out.cell (i := 3) rfl
  go_enter Tryd.func55, Tryd.ntmps55
  go_wp2_with fail
  (try rw [hWa])
  (try rw [hy])
  refine (HP0.out _ HBL.out).mono ?_; rintro e w1 ⟨rfl, hb1⟩
  have HB1 := hide (HBL.out.trans (hb1.mono HBL.out.size))
  have H1 := hide (H0.out.low hb1)
  have HBX := hide (HBX0.out.below hb1)
  have HNV1 := hide (HNV.out.below HB1.out)
  have K1 := hide (K2.of (z := z) (g := g) HB1.out)
  clear hb1 H0 HBX0 HBL e0 e1 e2 e3 HP0 HNV hWa
  obtain ⟨-, -, -, c3, -⟩ := H1.out.reads
  rw [HNN.out] at c3
  go_wp2_with fail
  (try rw [hm])
  go_region
  obtain ⟨U, hU, H2, K2'⟩ := named (R := fun V => (TmB w0 V z g cap ⟨R, C, cs, row, col, (a, tx), s, wt, bl⟩ ∧ Blk V y 72 [.int .i64 k, .int .i32 r, .slice A len c, .int .u8 109] ∧ NumsV V (.slice A len c) l ∧ Below W.heap.size W V) ∧ K2 z g W V) ⟨⟨H1.out.low (Below.refl _ _).drew, HBX.out.below (Below.refl _ _).drew, HNV1.out.below (Below.refl _ _).drew, HB1.out.drew⟩, K1.out.trans K2.drew⟩
  rw [hU]
  have HNV := hide H2.2.2.1
  have HBX := hide H2.2.1
  have HB1 := hide H2.2.2.2
  have H := hide H2.1
  have K := hide K2'
  clear hU H2 K2' H1 K1 c3 HNV1
  have e0 := HBX.out.cell (i := 0) rfl
  have e1 := HBX.out.cell (i := 1) rfl
  have e2 := HBX.out.cell (i := 2) rfl
  have e3 := HBX.out.cell (i := 3) rfl
  go_wp2_with fail
  refine (tlook_any _ H.out _ l HNV.out (by rw [HLN.out]; exact hl) H9.out).mono ?_; rintro e w9 ⟨rfl, H3, K3⟩
  go_wp2
  go_end0
  rw [HSQ.out]
  exact Mv.mk H3 (K.out.trans K3)
end Go.Proofs.YtmemdhmjhckmaaaDoor
