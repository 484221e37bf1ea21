/- Terminal: control sequences. Terminal: a rune is shown. Terminal: a rune is shown. Terminal: a rune is shown. Terminal: a rune is shown. -/
import Derived.Test.YtmemdhmjhckmaaaDoorZ19
import Derived.Test.YtmemdhmjhckmaaaDoorZ18
namespace Go.Proofs.YtmemdhmjhckmaaaDoor
open Go.RowKit
set_option maxRecDepth 100000

set_option maxHeartbeats 8000000 in
theorem tseq_other {w0 W : World} {z g cap : Nat} (t : Tm) (h : TmB w0 W z g cap t) (hT : Tabs w0) (hR : 2 ≤ t.rows ∧ t.rows ≤ 100) (hC : 8 ≤ t.cols ∧ t.cols ≤ 200) (hL : t.cs.length = t.rows * t.cols) (hrow : t.row < t.rows) (hcol : t.col < t.cols) (hA : allW t.cs) (k r fin : Int) (pv : Value) (l : List Int) (hv : NumsV W pv l) (hl : l.length ≤ 100000) (h9 : ∀ x ∈ l, 0 ≤ x ∧ x ≤ 9999) (hf : ∀ q ∈ [65, 66, 68, 67, 72, 75, 74, (109 : Int)], fin ≠ q) :
    Calls Tryd.prog 55 #[.pointer (some ⟨z, 0, none⟩), .agg #[.int .i64 k, .int .i32 r, pv, .int .u8 fin]] W (Mv w0 W z g cap (seqM t l fin)) := by
  obtain ⟨R, C, cs, row, col, ⟨a, tx⟩, s, wt, bl⟩ := t
  obtain ⟨A, c, rfl⟩ := hv.form
  dsimp only at *
  have hsq : seqM ⟨R, C, cs, row, col, (a, tx), s, wt, bl⟩ l fin = ⟨R, C, cs, row, col, (a, tx), s, wt, bl⟩ := by
    unfold seqM
    dsimp only
    rw [if_neg (hf 65 (by simp)), if_neg (hf 66 (by simp)), if_neg (hf 68 (by simp)), if_neg (hf 67 (by simp)), if_neg (hf 72 (by simp)), if_neg (hf 75 (by simp)), if_neg (hf 74 (by simp)), if_neg (hf 109 (by simp))]
  have HSQ := hide hsq
  clear hsq
  have ne65 : (fin == 65) = false := beq_eq_false_iff_ne.2 (hf 65 (by simp))
  have ne66 : (fin == 66) = false := beq_eq_false_iff_ne.2 (hf 66 (by simp))
  have ne68 : (fin == 68) = false := beq_eq_false_iff_ne.2 (hf 68 (by simp))
  have ne67 : (fin == 67) = false := beq_eq_false_iff_ne.2 (hf 67 (by simp))
  have ne72 : (fin == 72) = false := beq_eq_false_iff_ne.2 (hf 72 (by simp))
  have ne75 : (fin == 75) = false := beq_eq_false_iff_ne.2 (hf 75 (by simp))
  have ne74 : (fin == 74) = false := beq_eq_false_iff_ne.2 (hf 74 (by simp))
  have ne109 : (fin == 109) = false := beq_eq_false_iff_ne.2 (hf 109 (by simp))
  clear hf
  have h90 := getD_bd h9 0
  have h91 := getD_bd h9 1
  obtain ⟨nn, hnn⟩ : ∃ x, cs.length = x := ⟨_, rfl⟩
  have HNN := hide hnn
  have hn2 : nn ≤ 20000 := by rw [← hnn, hL]; exact Nat.le_trans (Nat.mul_le_mul hR.2 hC.2) (by decide)
  rw [hnn] at hL
  have HLL := hide hL
  have hbl : Below W.heap.size W (W.alloc (.cells #[.int .i64 k, .int .i32 r, .slice A l.length c, .int .u8 fin] 72)) := (Below.refl _ _).alloc (Nat.le_refl _) _
  have HP := hide (fun (W' : World) (hb : Below W.heap.size W W') (i : Nat) (hi : i ≤ 1) => param_any k r fin (.slice A l.length c) l i W' (hv.below hb) hl hi)
  have HNV := hide hv
  have HAL := hide hA
  have H0 := hide (h.low hbl)
  have HBX0 := hide (Blk.new W 72 [.int .i64 k, .int .i32 r, .slice A l.length c, .int .u8 fin])
  have HBL := hide hbl
  obtain ⟨n, hn⟩ : ∃ n, l.getD 0 0 = n := ⟨_, rfl⟩
  obtain ⟨n1, hn1⟩ : ∃ n, l.getD 1 0 = n := ⟨_, rfl⟩
  rw [hn] at h90
  (try rw [hn] at HSQ)
  rw [hn1] at h91
  (try rw [hn1] at HSQ)
  have HP0 := hide (fun (W' : World) (hb : Below W.heap.size W W') => by have := HP.out W' hb 0 (by omega); rw [hn] at this; exact this)
  have HP1 := hide (fun (W' : World) (hb : Below W.heap.size W W') => by have := HP.out W' hb 1 (by omega); rw [hn1] at this; exact this)
  have hmb := max_one h90
  obtain ⟨m, hm⟩ : ∃ m, max n 1 = m := ⟨_, rfl⟩
  rw [hm] at hmb
  (try rw [hm] at HSQ)
  have HMB := hide hmb
  have n1_ := h90.1
  have n2_ := h90.2
  clear h hbl hv hn hn1 HP hmb hA h90 hnn hL
  obtain ⟨len, hlen⟩ : ∃ q, l.length = q := ⟨_, rfl⟩
  rw [hlen] at H0 HBX0 HBL HP0 HP1 HNV hl ⊢
  clear hlen
  obtain ⟨y, hy⟩ : ∃ q, W.heap.size = q := ⟨_, rfl⟩
  rw [show [Value.int .i64 k, .int .i32 r, .slice A len c, .int .u8 fin].toArray = #[.int .i64 k, .int .i32 r, .slice A len c, .int .u8 fin] from rfl] at HBX0
  obtain ⟨Wa, hWa⟩ : ∃ V, W.alloc (.cells #[.int .i64 k, .int .i32 r, .slice A len c, .int .u8 fin] 72) = V := ⟨_, rfl⟩
  rw [hWa] at H0 HBX0 HBL
  rw [hy] at HBX0
  have e0 := HBX0.out.cell (i := 0) rfl
  have e1 := HBX0.out.cell (i := 1) rfl
  have e2 := HBX0.out.cell (i := 2) rfl
  have e3 := HBX0.out.cell (i := 3) rfl
  go_enter Tryd.func55, Tryd.ntmps55
  go_wp2_with fail
  (try rw [hWa])
  (try rw [hy])
  refine (HP0.out _ HBL.out).mono ?_; rintro e w1 ⟨rfl, hb1⟩
  have HB1 := hide (HBL.out.trans (hb1.mono HBL.out.size))
  have H1 := hide (H0.out.low hb1)
  have HBX := hide (HBX0.out.below hb1)
  have HNV1 := hide (HNV.out.below HB1.out)
  have K1 := hide (K2.of (z := z) (g := g) HB1.out)
  clear hb1 H0 HBX0 HBL e0 e1 e2 e3 HP0 HNV hWa
  obtain ⟨-, -, -, c3, -⟩ := H1.out.reads
  rw [HNN.out] at c3
  go_wp2_with fail
  (try rw [hm])
  go_region
  obtain ⟨U, hU, H2, K2'⟩ := named (R := fun V => (TmB w0 V z g cap ⟨R, C, cs, row, col, (a, tx), s, wt, bl⟩ ∧ Blk V y 72 [.int .i64 k, .int .i32 r, .slice A len c, .int .u8 fin] ∧ NumsV V (.slice A len c) l ∧ Below W.heap.size W V) ∧ K2 z g W V) ⟨⟨H1.out.low (Below.refl _ _).drew, HBX.out.below (Below.refl _ _).drew, HNV1.out.below (Below.refl _ _).drew, HB1.out.drew⟩, K1.out.trans K2.drew⟩
  rw [hU]
  have HNV := hide H2.2.2.1
  have HBX := hide H2.2.1
  have HB1 := hide H2.2.2.2
  have H := hide H2.1
  have K := hide K2'
  clear hU H2 K2' H1 K1 c3 HNV1
  have e0 := HBX.out.cell (i := 0) rfl
  have e1 := HBX.out.cell (i := 1) rfl
  have e2 := HBX.out.cell (i := 2) rfl
  have e3 := HBX.out.cell (i := 3) rfl
  go_wp2
  go_end0
  rw [HSQ.out]
  exact Mv.mk H.out K.out
end Go.Proofs.YtmemdhmjhckmaaaDoor
namespace Go.Proofs.YtmemdhmjhckmaaaDoor
open Go.RowKit
set_option maxRecDepth 100000

set_option maxHeartbeats 8000000 in
theorem tshow_n1 {w0 W : World} {z g cap : Nat} (t : Tm) (h : TmB w0 W z g cap t) (hT : Tabs w0) (hR : 2 ≤ t.rows ∧ t.rows ≤ 100) (hC : 8 ≤ t.cols ∧ t.cols ≤ 200) (hL : t.cs.length = t.rows * t.cols) (hrow : t.row < t.rows) (hcol : t.col < t.cols) (hA : allW t.cs) (hA2 : allW (wrapM t).cs) (r : Int) (hr : cells r = 1) (hw : wrapsB t 1 = false) :
    Calls Tryd.prog 52 #[.pointer (some ⟨z, 0, none⟩), .int .i32 r] W (Mv w0 W z g cap (showM t r 1)) := by
  have HOF := hide (wof_is r 1 hr W (hT.w.below h.below))
  have HE0 := hide (show showM t r 1 = layM (t) r 1 from by unfold showM; rw [if_neg (by rw [hw]; decide)])
  obtain ⟨R, C, cs, row, col, ⟨a, tx⟩, ⟨sr, sw, fg, bo, un, iv⟩, wt, bl⟩ := t
  dsimp only at *
  obtain ⟨n, hne⟩ : ∃ n, R * C = n := ⟨_, rfl⟩
  have hn : n ≤ 20000 := by rw [← hne]; exact Nat.le_trans (Nat.mul_le_mul hR.2 hC.2) (by decide)
  rw [hne] at hL
  have HN := hide hL
  have HA := hide hA
  have HE := HE0
  have H := hide h
  have K := hide (K2.refl z g W)
  obtain rfl : wt = false := by
    unfold wrapsB at hw
    cases wt with
    | false => rfl
    | true => cases hw
  clear hw
  obtain ⟨q, hq⟩ : ∃ q, row * C = q := ⟨_, rfl⟩
  have hq1 : q + C ≤ n := by
    have h1 : (row + 1) * C ≤ R * C := Nat.mul_le_mul_right C (by omega)
    rw [Nat.add_mul, Nat.one_mul, hq, hne] at h1
    exact h1
  have hqw := wrap_mul hq (by omega)
  obtain ⟨at_, hat⟩ : ∃ x, q + col = x := ⟨_, rfl⟩
  have HAT := hide (show row * C + col = at_ by rw [hq, hat])
  have hatw : IntKind.i64.wrap ((q : Int) + (col : Int)) = (at_ : Int) := (Go.wrap_small _ (by omega) (by omega)).trans (by omega)
  have hatn : at_ + 1 ≤ n := by omega
  clear hq hne
  obtain ⟨-, -, c2, c3, c4, c5, -, -, -, -, -, -, c12, -⟩ := h.reads
  clear h hA hA2 hL
  go_enter Tryd.func52, Tryd.ntmps52
  go_wp2_with fail
  refine HOF.out.mono ?_; rintro e w1 ⟨rfl, hb1⟩
  obtain ⟨U, hU, H1, K1⟩ := named (R := fun V => TmB w0 V z g cap _ ∧ K2 z g W V) ⟨H.out.low hb1, K2.of hb1⟩
  subst hU
  replace H := hide H1
  replace K := hide K1
  clear hb1 H1 K1 c2 c3 c4 c5 c12
  obtain ⟨-, -, c2, c3, c4, c5, -, -, -, -, -, -, c12, -⟩ := H.out.reads
  go_wp2_with fail
  go_region
  obtain ⟨U, hU, H1, K1⟩ := named (R := fun V => TmB w0 V z g cap _ ∧ K2 z g W V) ⟨H.out.low (Below.refl _ _).drew, K.out.trans K2.drew⟩
  rw [hU]
  replace H := hide H1
  replace K := hide K1
  clear hU H1 K1 c2 c3 c4 c5 c12
  obtain ⟨-, -, c2, c3, c4, c5, -, -, c8, c9, c10, c11, c12, -⟩ := H.out.reads
  rw [HN.out] at c3
  go_wp2_with fail
  go_region
  obtain ⟨U, hU, H1, K1⟩ := named (R := fun V => TmB w0 V z g cap ⟨R, C, cs, row, col, (a, tx), ⟨sr, sw, fg, bo, un, iv⟩, false, bl⟩ ∧ K2 z g W V) ⟨H.out.low (Below.refl _ _).drew, K.out.trans K2.drew⟩
  rw [hU]
  have H1 := hide H1
  have K1 := hide K1
  clear hU c2 c3 c4 c5 c8 c9 c10 c11 c12 H K
  go_wp2_with fail
  go_loopw [6] (fun jv wr => ∃ k : Nat, jv = .int .i64 ((at_ + k : Nat) : Int) ∧ k ≤ 1 ∧ Hid (TmB w0 wr z g cap ⟨R, C, wipeN cs at_ k, row, col, (a, tx), ⟨sr, sw, fg, bo, un, iv⟩, false, bl⟩) ∧ Hid (K2 z g W wr)) (fun jv _ => at_ + 1 - (intOf jv).toNat)
  case atStart => exact ⟨0, rfl, by omega, H1, K1⟩
  case round =>
    clear H1 K1
    obtain ⟨k, rfl, hk, HW, HK⟩ := hrel
    by_cases hlt : k < 1
    · have hkk : ((at_ + k : Nat) : Int) < (at_ : Int) + 1 := by omega
      go_wp2_with fail
      refine (terase_any _ HW.out hT (by dsimp only; rw [wipeN_len, HN.out]; exact hn) (at_ + k) (by dsimp only; exact allW_wipeN HA.out _ _ _ (by rw [wipeN_len, HN.out]; omega))).mono ?_; rintro e w' ⟨rfl, H2, K2'⟩
      have H2 := hide H2
      have K3 := hide (HK.out.trans K2')
      clear K2'
      go_wp2
      exact ⟨⟨k + 1, by go_num, by omega, H2, K3⟩, by simp [intOf]; omega⟩
    · obtain rfl : k = 1 := by omega
      have hkk : ¬ ((at_ + 1 : Nat) : Int) < (at_ : Int) + 1 := by omega
      have hlen := wipeN_len cs at_ 1
      rw [HN.out] at hlen
      have HL := hide hlen
      obtain ⟨-, -, c2, c3, c4, c5, -, -, c8, c9, c10, c11, c12, -⟩ := HW.out.reads
      rw [hlen] at c3
      obtain ⟨d, hd⟩ : ∃ d, (wipeN cs at_ 1)[at_]? = some d := ⟨_, List.getElem?_eq_getElem (by rw [hlen]; omega)⟩
      obtain ⟨x0, x1, x2, x3, x4, x5⟩ := own_reads HW.out.own hd
      have df := fun i => HW.out.own.frozen i
      clear hd hlen
      go_wp2_with fail
      go_region
      obtain ⟨U, hU, H1, K1⟩ := named (R := fun V => TmB w0 V z g cap _ ∧ K2 z g wr V) (HW.out.lay at_ r 1 fg bo un iv (by dsimp only; rw [HL.out]; omega))
      rw [hU]
      have H1 := hide H1
      have K1 := hide (HK.out.trans K1)
      clear hU c2 c3 c4 c5 c8 c9 c10 c11 c12 x0 x1 x2 x3 x4 x5 df
      dsimp only at H1
      obtain ⟨M, hM⟩ : ∃ M, (wipeN cs at_ 1).set at_ ⟨r, 1, fg, bo, un, iv⟩ = M := ⟨_, rfl⟩
      rw [hM] at H1
      have HM := hide hM
      clear hM
      obtain ⟨-, -, c2, -, -, c5, -, -, -, -, -, -, c12, -⟩ := H1.out.reads
      have bf := fun i => H1.out.b.frozen i
      have hsum : IntKind.i64.wrap (((col : Nat) : Int) + 1) = ((col + 1 : Nat) : Int) := (Go.wrap_small _ (by omega) (by omega)).trans (by omega)
      go_wp2_with fail
      have H3 := hide (H1.out.setZ ⟨R, C, M, row, (col + 1), (a, tx), ⟨sr, sw, fg, bo, un, iv⟩, false, bl⟩ 5 (.int .i64 ((col + 1 : Nat) : Int)) rfl rfl)
      have K3 := hide (K1.out.trans (K2.set z g 5 U (.int .i64 ((col + 1 : Nat) : Int))))
      clear c2 c5 c12 bf H1 K1
      obtain ⟨V, hV⟩ : ∃ V, U.setCell ⟨z, 5, none⟩ (.int .i64 ((col + 1 : Nat) : Int)) = V := ⟨_, rfl⟩
      have hsumc : ((col + 1 : Nat) : Int) = (col : Int) + 1 := by omega
      rw [hV] at H3 K3
      rw [hsumc] at hV
      try rw [hV]
      clear hV
      obtain ⟨-, -, c2, -, -, c5, -, -, -, -, -, -, c12, -⟩ := H3.out.reads
      have bf := fun i => H3.out.b.frozen i
      rw [hsumc] at c5
      clear hsumc
      by_cases hge : C ≤ col + 1
      · have q1 : (C : Int) ≤ (col : Int) + 1 := by omega
        go_wp2_with fail
        go_region
        go_wp2
        go_end0
        have H4 := ((H3.out.setZ ⟨R, C, M, row, (C - 1), (a, tx), ⟨sr, sw, fg, bo, un, iv⟩, false, bl⟩ 5 (.int .i64 ((C - 1 : Nat) : Int)) rfl rfl).setZ ⟨R, C, M, row, (C - 1), (a, tx), ⟨sr, sw, fg, bo, un, iv⟩, true, bl⟩ 12 (.bool true) rfl rfl).low (Below.refl _ _).drew
        rw [show ((C - 1 : Nat) : Int) = (C : Int) - 1 by omega] at H4
        rw [HE.out]
        have e : layM ⟨R, C, cs, row, col, (a, tx), ⟨sr, sw, fg, bo, un, iv⟩, false, bl⟩ r 1 = ⟨R, C, M, row, (C - 1), (a, tx), ⟨sr, sw, fg, bo, un, iv⟩, true, bl⟩ := by unfold layM layL inkT; dsimp only; rw [if_pos hge, decide_eq_true hge, HAT.out, ← HM.out]; rfl
        rw [e]
        exact Mv.mk H4 (((K3.out.trans (K2.set _ _ _ _ _)).trans (K2.set _ _ _ _ _)).trans K2.drew)
      · have q1 : ¬ (C : Int) ≤ (col : Int) + 1 := by omega
        go_wp2_with fail
        go_region
        go_wp2
        go_end0
        rw [HE.out]
        have e : layM ⟨R, C, cs, row, col, (a, tx), ⟨sr, sw, fg, bo, un, iv⟩, false, bl⟩ r 1 = ⟨R, C, M, row, (col + 1), (a, tx), ⟨sr, sw, fg, bo, un, iv⟩, false, bl⟩ := by unfold layM layL inkT; dsimp only; rw [if_neg hge, decide_eq_false hge, HAT.out, ← HM.out]; rfl
        rw [e]
        exact Mv.mk (H3.out.low (Below.refl _ _).drew) (K3.out.trans K2.drew)
end Go.Proofs.YtmemdhmjhckmaaaDoor
namespace Go.Proofs.YtmemdhmjhckmaaaDoor
open Go.RowKit
set_option maxRecDepth 100000

set_option maxHeartbeats 8000000 in
theorem tshow_n2 {w0 W : World} {z g cap : Nat} (t : Tm) (h : TmB w0 W z g cap t) (hT : Tabs w0) (hR : 2 ≤ t.rows ∧ t.rows ≤ 100) (hC : 8 ≤ t.cols ∧ t.cols ≤ 200) (hL : t.cs.length = t.rows * t.cols) (hrow : t.row < t.rows) (hcol : t.col < t.cols) (hA : allW t.cs) (hA2 : allW (wrapM t).cs) (r : Int) (hr : cells r = 2) (hw : wrapsB t 2 = false) :
    Calls Tryd.prog 52 #[.pointer (some ⟨z, 0, none⟩), .int .i32 r] W (Mv w0 W z g cap (showM t r 2)) := by
  have HOF := hide (wof_is r 2 hr W (hT.w.below h.below))
  have HE0 := hide (show showM t r 2 = layM (t) r 2 from by unfold showM; rw [if_neg (by rw [hw]; decide)])
  obtain ⟨R, C, cs, row, col, ⟨a, tx⟩, ⟨sr, sw, fg, bo, un, iv⟩, wt, bl⟩ := t
  dsimp only at *
  obtain ⟨n, hne⟩ : ∃ n, R * C = n := ⟨_, rfl⟩
  have hn : n ≤ 20000 := by rw [← hne]; exact Nat.le_trans (Nat.mul_le_mul hR.2 hC.2) (by decide)
  rw [hne] at hL
  have HN := hide hL
  have HA := hide hA
  have HE := HE0
  have H := hide h
  have K := hide (K2.refl z g W)
  have hwf : wt = false ∧ ¬ (col + 1 = C) := by
    unfold wrapsB at hw
    simp at hw
    exact hw
  obtain ⟨rfl, hcC⟩ := hwf
  have hcb : ((col : Int) == (C : Int) - 1) = false := by rw [beq_eq_false_iff_ne]; omega
  clear hw
  obtain ⟨q, hq⟩ : ∃ q, row * C = q := ⟨_, rfl⟩
  have hq1 : q + C ≤ n := by
    have h1 : (row + 1) * C ≤ R * C := Nat.mul_le_mul_right C (by omega)
    rw [Nat.add_mul, Nat.one_mul, hq, hne] at h1
    exact h1
  have hqw := wrap_mul hq (by omega)
  obtain ⟨at_, hat⟩ : ∃ x, q + col = x := ⟨_, rfl⟩
  have HAT := hide (show row * C + col = at_ by rw [hq, hat])
  have hatw : IntKind.i64.wrap ((q : Int) + (col : Int)) = (at_ : Int) := (Go.wrap_small _ (by omega) (by omega)).trans (by omega)
  have hatn : at_ + 2 ≤ n := by omega
  clear hq hne
  obtain ⟨-, -, c2, c3, c4, c5, -, -, -, -, -, -, c12, -⟩ := h.reads
  clear h hA hA2 hL
  go_enter Tryd.func52, Tryd.ntmps52
  go_wp2_with fail
  refine HOF.out.mono ?_; rintro e w1 ⟨rfl, hb1⟩
  obtain ⟨U, hU, H1, K1⟩ := named (R := fun V => TmB w0 V z g cap _ ∧ K2 z g W V) ⟨H.out.low hb1, K2.of hb1⟩
  subst hU
  replace H := hide H1
  replace K := hide K1
  clear hb1 H1 K1 c2 c3 c4 c5 c12
  obtain ⟨-, -, c2, c3, c4, c5, -, -, -, -, -, -, c12, -⟩ := H.out.reads
  go_wp2_with fail
  go_region
  obtain ⟨U, hU, H1, K1⟩ := named (R := fun V => TmB w0 V z g cap _ ∧ K2 z g W V) ⟨H.out.low (Below.refl _ _).drew, K.out.trans K2.drew⟩
  rw [hU]
  replace H := hide H1
  replace K := hide K1
  clear hU H1 K1 c2 c3 c4 c5 c12
  obtain ⟨-, -, c2, c3, c4, c5, -, -, c8, c9, c10, c11, c12, -⟩ := H.out.reads
  rw [HN.out] at c3
  go_wp2_with fail
  go_region
  obtain ⟨U, hU, H1, K1⟩ := named (R := fun V => TmB w0 V z g cap ⟨R, C, cs, row, col, (a, tx), ⟨sr, sw, fg, bo, un, iv⟩, false, bl⟩ ∧ K2 z g W V) ⟨H.out.low (Below.refl _ _).drew, K.out.trans K2.drew⟩
  rw [hU]
  have H1 := hide H1
  have K1 := hide K1
  clear hU c2 c3 c4 c5 c8 c9 c10 c11 c12 H K
  go_wp2_with fail
  go_loopw [6] (fun jv wr => ∃ k : Nat, jv = .int .i64 ((at_ + k : Nat) : Int) ∧ k ≤ 2 ∧ Hid (TmB w0 wr z g cap ⟨R, C, wipeN cs at_ k, row, col, (a, tx), ⟨sr, sw, fg, bo, un, iv⟩, false, bl⟩) ∧ Hid (K2 z g W wr)) (fun jv _ => at_ + 2 - (intOf jv).toNat)
  case atStart => exact ⟨0, rfl, by omega, H1, K1⟩
  case round =>
    clear H1 K1
    obtain ⟨k, rfl, hk, HW, HK⟩ := hrel
    by_cases hlt : k < 2
    · have hkk : ((at_ + k : Nat) : Int) < (at_ : Int) + 2 := by omega
      go_wp2_with fail
      refine (terase_any _ HW.out hT (by dsimp only; rw [wipeN_len, HN.out]; exact hn) (at_ + k) (by dsimp only; exact allW_wipeN HA.out _ _ _ (by rw [wipeN_len, HN.out]; omega))).mono ?_; rintro e w' ⟨rfl, H2, K2'⟩
      have H2 := hide H2
      have K3 := hide (HK.out.trans K2')
      clear K2'
      go_wp2
      exact ⟨⟨k + 1, by go_num, by omega, H2, K3⟩, by simp [intOf]; omega⟩
    · obtain rfl : k = 2 := by omega
      have hkk : ¬ ((at_ + 2 : Nat) : Int) < (at_ : Int) + 2 := by omega
      have hlen := wipeN_len cs at_ 2
      rw [HN.out] at hlen
      have HL := hide hlen
      obtain ⟨-, -, c2, c3, c4, c5, -, -, c8, c9, c10, c11, c12, -⟩ := HW.out.reads
      rw [hlen] at c3
      obtain ⟨d, hd⟩ : ∃ d, (wipeN cs at_ 2)[at_]? = some d := ⟨_, List.getElem?_eq_getElem (by rw [hlen]; omega)⟩
      obtain ⟨x0, x1, x2, x3, x4, x5⟩ := own_reads HW.out.own hd
      have df := fun i => HW.out.own.frozen i
      clear hd hlen
      go_wp2_with fail
      go_region
      obtain ⟨U, hU, H1, K1⟩ := named (R := fun V => TmB w0 V z g cap _ ∧ K2 z g wr V) (HW.out.lay at_ r 2 fg bo un iv (by dsimp only; rw [HL.out]; omega))
      rw [hU]
      have H1 := hide H1
      have K1 := hide (HK.out.trans K1)
      clear hU c2 c3 c4 c5 c8 c9 c10 c11 c12 x0 x1 x2 x3 x4 x5 df
      dsimp only at H1
      have hlen : ((wipeN cs at_ 2).set at_ ⟨r, 2, fg, bo, un, iv⟩).length = n := by rw [List.length_set, HL.out]
      have HL2 := hide hlen
      obtain ⟨-, -, c2, c3, c4, c5, -, -, c8, c9, c10, c11, c12, -⟩ := H1.out.reads
      rw [hlen] at c3
      obtain ⟨d, hd⟩ : ∃ d, ((wipeN cs at_ 2).set at_ ⟨r, 2, fg, bo, un, iv⟩)[at_ + 1]? = some d := ⟨_, List.getElem?_eq_getElem (by rw [hlen]; omega)⟩
      obtain ⟨x0, x1, x2, x3, x4, x5⟩ := own_reads H1.out.own hd
      have df := fun i => H1.out.own.frozen i
      have hi2 : (at_ : Int) + 1 < (n : Int) := by omega
      clear hd hlen
      go_wp2_with fail
      go_region
      obtain ⟨U2, hU, H2, K2'⟩ := named (R := fun V => TmB w0 V z g cap _ ∧ K2 z g U V) (H1.out.lay (at_ + 1) 0 0 fg bo un iv (by dsimp only; rw [HL2.out]; omega))
      rw [hU]
      replace H1 := hide H2
      replace K1 := hide (K1.out.trans K2')
      clear hU c2 c3 c4 c5 c8 c9 c10 c11 c12 x0 x1 x2 x3 x4 x5 df H2 K2'
      dsimp only at H1
      obtain ⟨M, hM⟩ : ∃ M, ((wipeN cs at_ 2).set at_ ⟨r, 2, fg, bo, un, iv⟩).set (at_ + 1) ⟨0, 0, fg, bo, un, iv⟩ = M := ⟨_, rfl⟩
      rw [hM] at H1
      have HM := hide hM
      clear hM
      obtain ⟨-, -, c2, -, -, c5, -, -, -, -, -, -, c12, -⟩ := H1.out.reads
      have bf := fun i => H1.out.b.frozen i
      have hsum : IntKind.i64.wrap (((col : Nat) : Int) + 2) = ((col + 2 : Nat) : Int) := (Go.wrap_small _ (by omega) (by omega)).trans (by omega)
      go_wp2_with fail
      have H3 := hide (H1.out.setZ ⟨R, C, M, row, (col + 2), (a, tx), ⟨sr, sw, fg, bo, un, iv⟩, false, bl⟩ 5 (.int .i64 ((col + 2 : Nat) : Int)) rfl rfl)
      have K3 := hide (K1.out.trans (K2.set z g 5 U2 (.int .i64 ((col + 2 : Nat) : Int))))
      clear c2 c5 c12 bf H1 K1
      obtain ⟨V, hV⟩ : ∃ V, U2.setCell ⟨z, 5, none⟩ (.int .i64 ((col + 2 : Nat) : Int)) = V := ⟨_, rfl⟩
      have hsumc : ((col + 2 : Nat) : Int) = (col : Int) + 2 := by omega
      rw [hV] at H3 K3
      rw [hsumc] at hV
      try rw [hV]
      clear hV
      obtain ⟨-, -, c2, -, -, c5, -, -, -, -, -, -, c12, -⟩ := H3.out.reads
      have bf := fun i => H3.out.b.frozen i
      rw [hsumc] at c5
      clear hsumc
      by_cases hge : C ≤ col + 2
      · have q1 : (C : Int) ≤ (col : Int) + 2 := by omega
        go_wp2_with fail
        go_region
        go_wp2
        go_end0
        have H4 := ((H3.out.setZ ⟨R, C, M, row, (C - 1), (a, tx), ⟨sr, sw, fg, bo, un, iv⟩, false, bl⟩ 5 (.int .i64 ((C - 1 : Nat) : Int)) rfl rfl).setZ ⟨R, C, M, row, (C - 1), (a, tx), ⟨sr, sw, fg, bo, un, iv⟩, true, bl⟩ 12 (.bool true) rfl rfl).low (Below.refl _ _).drew
        rw [show ((C - 1 : Nat) : Int) = (C : Int) - 1 by omega] at H4
        rw [HE.out]
        have e : layM ⟨R, C, cs, row, col, (a, tx), ⟨sr, sw, fg, bo, un, iv⟩, false, bl⟩ r 2 = ⟨R, C, M, row, (C - 1), (a, tx), ⟨sr, sw, fg, bo, un, iv⟩, true, bl⟩ := by unfold layM layL inkT; dsimp only; rw [if_pos hge, decide_eq_true hge, HAT.out, ← HM.out]; rfl
        rw [e]
        exact Mv.mk H4 (((K3.out.trans (K2.set _ _ _ _ _)).trans (K2.set _ _ _ _ _)).trans K2.drew)
      · have q1 : ¬ (C : Int) ≤ (col : Int) + 2 := by omega
        go_wp2_with fail
        go_region
        go_wp2
        go_end0
        rw [HE.out]
        have e : layM ⟨R, C, cs, row, col, (a, tx), ⟨sr, sw, fg, bo, un, iv⟩, false, bl⟩ r 2 = ⟨R, C, M, row, (col + 2), (a, tx), ⟨sr, sw, fg, bo, un, iv⟩, false, bl⟩ := by unfold layM layL inkT; dsimp only; rw [if_neg hge, decide_eq_false hge, HAT.out, ← HM.out]; rfl
        rw [e]
        exact Mv.mk (H3.out.low (Below.refl _ _).drew) (K3.out.trans K2.drew)
end Go.Proofs.YtmemdhmjhckmaaaDoor
namespace Go.Proofs.YtmemdhmjhckmaaaDoor
open Go.RowKit
set_option maxRecDepth 100000

set_option maxHeartbeats 8000000 in
theorem tshow_w1 {w0 W : World} {z g cap : Nat} (t : Tm) (h : TmB w0 W z g cap t) (hT : Tabs w0) (hR : 2 ≤ t.rows ∧ t.rows ≤ 100) (hC : 8 ≤ t.cols ∧ t.cols ≤ 200) (hL : t.cs.length = t.rows * t.cols) (hrow : t.row < t.rows) (hcol : t.col < t.cols) (hA : allW t.cs) (hA2 : allW (wrapM t).cs) (r : Int) (hr : cells r = 1) (hw : t.waits = true) :
    Calls Tryd.prog 52 #[.pointer (some ⟨z, 0, none⟩), .int .i32 r] W (Mv w0 W z g cap (showM t r 1)) := by
  have HOF := hide (wof_is r 1 hr W (hT.w.below h.below))
  have HE0 := hide (show showM t r 1 = layM (wrapM t) r 1 from by unfold showM; rw [if_pos (by unfold wrapsB; rw [hw]; rfl)])
  obtain ⟨R, C, cs, row, col, ⟨a, tx⟩, ⟨sr, sw, fg, bo, un, iv⟩, wt, bl⟩ := t
  dsimp only at *
  obtain ⟨n, hne⟩ : ∃ n, R * C = n := ⟨_, rfl⟩
  have hn : n ≤ 20000 := by rw [← hne]; exact Nat.le_trans (Nat.mul_le_mul hR.2 hC.2) (by decide)
  rw [hne] at hL
  obtain ⟨cs1, row1, hf⟩ := wrap_form R C cs row 0 (a, tx) ⟨sr, sw, fg, bo, un, iv⟩ false bl
  have hwm : wrapM ⟨R, C, cs, row, col, (a, tx), ⟨sr, sw, fg, bo, un, iv⟩, wt, bl⟩ = ⟨R, C, cs1, row1, 0, (a, tx), ⟨sr, sw, fg, bo, un, iv⟩, false, bl⟩ := hf
  rw [hwm] at hA2 HE0
  dsimp only at hA2
  have HF := hide hf
  have hcr : cs1.length = n ∧ row1 < R := by
    have e1 := congrArg (fun t => t.cs.length) hf
    have e2 := congrArg Tm.row hf
    unfold feedM at e1 e2
    dsimp only at e1 e2
    split at e1
    · rename_i hlt
      rw [if_pos hlt] at e2
      dsimp only at e1 e2
      exact ⟨by omega, by omega⟩
    · rename_i hlt
      rw [if_neg hlt] at e2
      dsimp only at e1 e2
      have hCn : C ≤ n := by rw [← hne]; exact Nat.le_mul_of_pos_left C (by omega)
      simp at e1
      exact ⟨by omega, by omega⟩
  have hCn : C < n := by
    rw [← hne]
    calc C < 2 * C := by omega
      _ ≤ R * C := Nat.mul_le_mul_right C hR.1
  have HN := hide hcr.1
  have hrow1 := hcr.2
  have HN0 := hide hL
  have HA := hide hA2
  have HE := HE0
  have H := hide h
  obtain ⟨at_, hq⟩ : ∃ q, row1 * C = q := ⟨_, rfl⟩
  have hq1 : at_ + C ≤ n := by
    have h1 : (row1 + 1) * C ≤ R * C := Nat.mul_le_mul_right C (by omega)
    rw [Nat.add_mul, Nat.one_mul, hq, hne] at h1
    exact h1
  have hqw := wrap_mul hq (by omega)
  have HAT := hide (show row1 * C + 0 = at_ by rw [hq, Nat.add_zero])
  have hatn : at_ + 1 ≤ n := by omega
  clear hq hne
  subst hw
  clear h hA hA2 hL hcr hf hwm
  go_enter Tryd.func52, Tryd.ntmps52
  go_wp2_with fail
  refine HOF.out.mono ?_; rintro e w1 ⟨rfl, hb1⟩
  replace H := hide (H.out.low hb1)
  have K := hide (K2.of (z := z) (g := g) hb1)
  clear hb1
  obtain ⟨-, -, c2, c3, c4, c5, -, -, -, -, -, -, c12, -⟩ := H.out.reads
  have bf := fun i => H.out.b.frozen i
  go_wp2_with fail
  go_region
  go_wp2_with fail
  have H3 := ((H.out.setZ ⟨R, C, cs, row, 0, (a, tx), ⟨sr, sw, fg, bo, un, iv⟩, true, bl⟩ 5 (.int .i64 ((0 : Nat) : Int)) rfl rfl).setZ ⟨R, C, cs, row, 0, (a, tx), ⟨sr, sw, fg, bo, un, iv⟩, false, bl⟩ 12 (.bool false) rfl rfl).low (Below.refl _ _).drew
  obtain ⟨U, hU, H1, K1⟩ := named (R := fun V => TmB w0 V z g cap _ ∧ K2 z g W V) ⟨H3, ((K.out.trans (K2.set z g 5 _ (.int .i64 ((0 : Nat) : Int)))).trans (K2.set z g 12 _ (.bool false))).trans K2.drew⟩
  have hU : ((w1.setCell ⟨z, 5, none⟩ (.int .i64 0)).setCell ⟨z, 12, none⟩ (.bool false)).drew = U := hU
  rw [hU]
  clear hU H3 c2 c3 c4 c5 c12 bf H K
  have H1 := hide H1
  have K1 := hide K1
  refine (tfeed_any _ H1.out hT (by dsimp only; rw [HN0.out]; exact hn) (by dsimp only; rw [HN0.out]; exact hCn) (by dsimp only; omega) (by dsimp only; omega) (by dsimp only; omega)).mono ?_; rintro e w2 ⟨rfl, H2, K2'⟩
  rw [HF.out] at H2
  have H := hide H2
  have K := hide (K1.out.trans K2')
  clear H2 K2' H1 K1
  obtain ⟨-, -, c2, c3, c4, c5, -, -, c8, c9, c10, c11, c12, -⟩ := H.out.reads
  rw [HN.out] at c3
  go_wp2_with fail
  go_region
  obtain ⟨U, hU, H1, K1⟩ := named (R := fun V => TmB w0 V z g cap ⟨R, C, cs1, row1, 0, (a, tx), ⟨sr, sw, fg, bo, un, iv⟩, false, bl⟩ ∧ K2 z g W V) ⟨H.out.low (Below.refl _ _).drew, K.out.trans K2.drew⟩
  rw [hU]
  have H1 := hide H1
  have K1 := hide K1
  clear hU c2 c3 c4 c5 c8 c9 c10 c11 c12 H K
  go_wp2_with fail
  go_loopw [6] (fun jv wr => ∃ k : Nat, jv = .int .i64 ((at_ + k : Nat) : Int) ∧ k ≤ 1 ∧ Hid (TmB w0 wr z g cap ⟨R, C, wipeN cs1 at_ k, row1, 0, (a, tx), ⟨sr, sw, fg, bo, un, iv⟩, false, bl⟩) ∧ Hid (K2 z g W wr)) (fun jv _ => at_ + 1 - (intOf jv).toNat)
  case atStart => exact ⟨0, rfl, by omega, H1, K1⟩
  case round =>
    clear H1 K1
    obtain ⟨k, rfl, hk, HW, HK⟩ := hrel
    by_cases hlt : k < 1
    · have hkk : ((at_ + k : Nat) : Int) < (at_ : Int) + 1 := by omega
      go_wp2_with fail
      refine (terase_any _ HW.out hT (by dsimp only; rw [wipeN_len, HN.out]; exact hn) (at_ + k) (by dsimp only; exact allW_wipeN HA.out _ _ _ (by rw [wipeN_len, HN.out]; omega))).mono ?_; rintro e w' ⟨rfl, H2, K2'⟩
      have H2 := hide H2
      have K3 := hide (HK.out.trans K2')
      clear K2'
      go_wp2
      exact ⟨⟨k + 1, by go_num, by omega, H2, K3⟩, by simp [intOf]; omega⟩
    · obtain rfl : k = 1 := by omega
      have hkk : ¬ ((at_ + 1 : Nat) : Int) < (at_ : Int) + 1 := by omega
      have hlen := wipeN_len cs1 at_ 1
      rw [HN.out] at hlen
      have HL := hide hlen
      obtain ⟨-, -, c2, c3, c4, c5, -, -, c8, c9, c10, c11, c12, -⟩ := HW.out.reads
      rw [hlen] at c3
      obtain ⟨d, hd⟩ : ∃ d, (wipeN cs1 at_ 1)[at_]? = some d := ⟨_, List.getElem?_eq_getElem (by rw [hlen]; omega)⟩
      obtain ⟨x0, x1, x2, x3, x4, x5⟩ := own_reads HW.out.own hd
      have df := fun i => HW.out.own.frozen i
      clear hd hlen
      go_wp2_with fail
      go_region
      obtain ⟨U, hU, H1, K1⟩ := named (R := fun V => TmB w0 V z g cap _ ∧ K2 z g wr V) (HW.out.lay at_ r 1 fg bo un iv (by dsimp only; rw [HL.out]; omega))
      rw [hU]
      have H1 := hide H1
      have K1 := hide (HK.out.trans K1)
      clear hU c2 c3 c4 c5 c8 c9 c10 c11 c12 x0 x1 x2 x3 x4 x5 df
      dsimp only at H1
      obtain ⟨M, hM⟩ : ∃ M, (wipeN cs1 at_ 1).set at_ ⟨r, 1, fg, bo, un, iv⟩ = M := ⟨_, rfl⟩
      rw [hM] at H1
      have HM := hide hM
      clear hM
      obtain ⟨-, -, c2, -, -, c5, -, -, -, -, -, -, c12, -⟩ := H1.out.reads
      rw [show (((0 : Nat)) : Int) = 0 from rfl] at c5
      have bf := fun i => H1.out.b.frozen i
      go_wp2_with fail
      have H3 := hide (H1.out.setZ ⟨R, C, M, row1, 1, (a, tx), ⟨sr, sw, fg, bo, un, iv⟩, false, bl⟩ 5 (.int .i64 ((1 : Nat) : Int)) rfl rfl)
      have K3 := hide (K1.out.trans (K2.set z g 5 U (.int .i64 ((1 : Nat) : Int))))
      clear c2 c5 c12 bf H1 K1
      obtain ⟨V, hV⟩ : ∃ V, U.setCell ⟨z, 5, none⟩ (.int .i64 1) = V := ⟨_, rfl⟩
      rw [show U.setCell ⟨z, 5, none⟩ (.int .i64 ((1 : Nat) : Int)) = V from hV] at H3 K3
      rw [hV]
      clear hV
      obtain ⟨-, -, c2, -, -, c5, -, -, -, -, -, -, c12, -⟩ := H3.out.reads
      rw [show (((1 : Nat)) : Int) = 1 from rfl] at c5
      have q1 : ¬ (C : Int) ≤ 1 := by omega
      go_wp2_with fail
      go_region
      go_wp2
      go_end0
      rw [HE.out]
      have hge : ¬ C ≤ 0 + 1 := by omega
      have e : layM ⟨R, C, cs1, row1, 0, (a, tx), ⟨sr, sw, fg, bo, un, iv⟩, false, bl⟩ r 1 = ⟨R, C, M, row1, 1, (a, tx), ⟨sr, sw, fg, bo, un, iv⟩, false, bl⟩ := by unfold layM layL inkT; dsimp only; rw [if_neg hge, decide_eq_false hge, HAT.out, ← HM.out]; rfl
      rw [e]
      exact Mv.mk (H3.out.low (Below.refl _ _).drew) (K3.out.trans K2.drew)
end Go.Proofs.YtmemdhmjhckmaaaDoor
namespace Go.Proofs.YtmemdhmjhckmaaaDoor
open Go.RowKit
set_option maxRecDepth 100000

set_option maxHeartbeats 8000000 in
theorem tshow_w2 {w0 W : World} {z g cap : Nat} (t : Tm) (h : TmB w0 W z g cap t) (hT : Tabs w0) (hR : 2 ≤ t.rows ∧ t.rows ≤ 100) (hC : 8 ≤ t.cols ∧ t.cols ≤ 200) (hL : t.cs.length = t.rows * t.cols) (hrow : t.row < t.rows) (hcol : t.col < t.cols) (hA : allW t.cs) (hA2 : allW (wrapM t).cs) (r : Int) (hr : cells r = 2) (hw : t.waits = true) :
    Calls Tryd.prog 52 #[.pointer (some ⟨z, 0, none⟩), .int .i32 r] W (Mv w0 W z g cap (showM t r 2)) := by
  have HOF := hide (wof_is r 2 hr W (hT.w.below h.below))
  have HE0 := hide (show showM t r 2 = layM (wrapM t) r 2 from by unfold showM; rw [if_pos (by unfold wrapsB; rw [hw]; rfl)])
  obtain ⟨R, C, cs, row, col, ⟨a, tx⟩, ⟨sr, sw, fg, bo, un, iv⟩, wt, bl⟩ := t
  dsimp only at *
  obtain ⟨n, hne⟩ : ∃ n, R * C = n := ⟨_, rfl⟩
  have hn : n ≤ 20000 := by rw [← hne]; exact Nat.le_trans (Nat.mul_le_mul hR.2 hC.2) (by decide)
  rw [hne] at hL
  obtain ⟨cs1, row1, hf⟩ := wrap_form R C cs row 0 (a, tx) ⟨sr, sw, fg, bo, un, iv⟩ false bl
  have hwm : wrapM ⟨R, C, cs, row, col, (a, tx), ⟨sr, sw, fg, bo, un, iv⟩, wt, bl⟩ = ⟨R, C, cs1, row1, 0, (a, tx), ⟨sr, sw, fg, bo, un, iv⟩, false, bl⟩ := hf
  rw [hwm] at hA2 HE0
  dsimp only at hA2
  have HF := hide hf
  have hcr : cs1.length = n ∧ row1 < R := by
    have e1 := congrArg (fun t => t.cs.length) hf
    have e2 := congrArg Tm.row hf
    unfold feedM at e1 e2
    dsimp only at e1 e2
    split at e1
    · rename_i hlt
      rw [if_pos hlt] at e2
      dsimp only at e1 e2
      exact ⟨by omega, by omega⟩
    · rename_i hlt
      rw [if_neg hlt] at e2
      dsimp only at e1 e2
      have hCn : C ≤ n := by rw [← hne]; exact Nat.le_mul_of_pos_left C (by omega)
      simp at e1
      exact ⟨by omega, by omega⟩
  have hCn : C < n := by
    rw [← hne]
    calc C < 2 * C := by omega
      _ ≤ R * C := Nat.mul_le_mul_right C hR.1
  have HN := hide hcr.1
  have hrow1 := hcr.2
  have HN0 := hide hL
  have HA := hide hA2
  have HE := HE0
  have H := hide h
  obtain ⟨at_, hq⟩ : ∃ q, row1 * C = q := ⟨_, rfl⟩
  have hq1 : at_ + C ≤ n := by
    have h1 : (row1 + 1) * C ≤ R * C := Nat.mul_le_mul_right C (by omega)
    rw [Nat.add_mul, Nat.one_mul, hq, hne] at h1
    exact h1
  have hqw := wrap_mul hq (by omega)
  have HAT := hide (show row1 * C + 0 = at_ by rw [hq, Nat.add_zero])
  have hatn : at_ + 2 ≤ n := by omega
  clear hq hne
  subst hw
  clear h hA hA2 hL hcr hf hwm
  go_enter Tryd.func52, Tryd.ntmps52
  go_wp2_with fail
  refine HOF.out.mono ?_; rintro e w1 ⟨rfl, hb1⟩
  replace H := hide (H.out.low hb1)
  have K := hide (K2.of (z := z) (g := g) hb1)
  clear hb1
  obtain ⟨-, -, c2, c3, c4, c5, -, -, -, -, -, -, c12, -⟩ := H.out.reads
  have bf := fun i => H.out.b.frozen i
  go_wp2_with fail
  go_region
  go_wp2_with fail
  have H3 := ((H.out.setZ ⟨R, C, cs, row, 0, (a, tx), ⟨sr, sw, fg, bo, un, iv⟩, true, bl⟩ 5 (.int .i64 ((0 : Nat) : Int)) rfl rfl).setZ ⟨R, C, cs, row, 0, (a, tx), ⟨sr, sw, fg, bo, un, iv⟩, false, bl⟩ 12 (.bool false) rfl rfl).low (Below.refl _ _).drew
  obtain ⟨U, hU, H1, K1⟩ := named (R := fun V => TmB w0 V z g cap _ ∧ K2 z g W V) ⟨H3, ((K.out.trans (K2.set z g 5 _ (.int .i64 ((0 : Nat) : Int)))).trans (K2.set z g 12 _ (.bool false))).trans K2.drew⟩
  have hU : ((w1.setCell ⟨z, 5, none⟩ (.int .i64 0)).setCell ⟨z, 12, none⟩ (.bool false)).drew = U := hU
  rw [hU]
  clear hU H3 c2 c3 c4 c5 c12 bf H K
  have H1 := hide H1
  have K1 := hide K1
  refine (tfeed_any _ H1.out hT (by dsimp only; rw [HN0.out]; exact hn) (by dsimp only; rw [HN0.out]; exact hCn) (by dsimp only; omega) (by dsimp only; omega) (by dsimp only; omega)).mono ?_; rintro e w2 ⟨rfl, H2, K2'⟩
  rw [HF.out] at H2
  have H := hide H2
  have K := hide (K1.out.trans K2')
  clear H2 K2' H1 K1
  obtain ⟨-, -, c2, c3, c4, c5, -, -, c8, c9, c10, c11, c12, -⟩ := H.out.reads
  rw [HN.out] at c3
  go_wp2_with fail
  go_region
  obtain ⟨U, hU, H1, K1⟩ := named (R := fun V => TmB w0 V z g cap ⟨R, C, cs1, row1, 0, (a, tx), ⟨sr, sw, fg, bo, un, iv⟩, false, bl⟩ ∧ K2 z g W V) ⟨H.out.low (Below.refl _ _).drew, K.out.trans K2.drew⟩
  rw [hU]
  have H1 := hide H1
  have K1 := hide K1
  clear hU c2 c3 c4 c5 c8 c9 c10 c11 c12 H K
  go_wp2_with fail
  go_loopw [6] (fun jv wr => ∃ k : Nat, jv = .int .i64 ((at_ + k : Nat) : Int) ∧ k ≤ 2 ∧ Hid (TmB w0 wr z g cap ⟨R, C, wipeN cs1 at_ k, row1, 0, (a, tx), ⟨sr, sw, fg, bo, un, iv⟩, false, bl⟩) ∧ Hid (K2 z g W wr)) (fun jv _ => at_ + 2 - (intOf jv).toNat)
  case atStart => exact ⟨0, rfl, by omega, H1, K1⟩
  case round =>
    clear H1 K1
    obtain ⟨k, rfl, hk, HW, HK⟩ := hrel
    by_cases hlt : k < 2
    · have hkk : ((at_ + k : Nat) : Int) < (at_ : Int) + 2 := by omega
      go_wp2_with fail
      refine (terase_any _ HW.out hT (by dsimp only; rw [wipeN_len, HN.out]; exact hn) (at_ + k) (by dsimp only; exact allW_wipeN HA.out _ _ _ (by rw [wipeN_len, HN.out]; omega))).mono ?_; rintro e w' ⟨rfl, H2, K2'⟩
      have H2 := hide H2
      have K3 := hide (HK.out.trans K2')
      clear K2'
      go_wp2
      exact ⟨⟨k + 1, by go_num, by omega, H2, K3⟩, by simp [intOf]; omega⟩
    · obtain rfl : k = 2 := by omega
      have hkk : ¬ ((at_ + 2 : Nat) : Int) < (at_ : Int) + 2 := by omega
      have hlen := wipeN_len cs1 at_ 2
      rw [HN.out] at hlen
      have HL := hide hlen
      obtain ⟨-, -, c2, c3, c4, c5, -, -, c8, c9, c10, c11, c12, -⟩ := HW.out.reads
      rw [hlen] at c3
      obtain ⟨d, hd⟩ : ∃ d, (wipeN cs1 at_ 2)[at_]? = some d := ⟨_, List.getElem?_eq_getElem (by rw [hlen]; omega)⟩
      obtain ⟨x0, x1, x2, x3, x4, x5⟩ := own_reads HW.out.own hd
      have df := fun i => HW.out.own.frozen i
      clear hd hlen
      go_wp2_with fail
      go_region
      obtain ⟨U, hU, H1, K1⟩ := named (R := fun V => TmB w0 V z g cap _ ∧ K2 z g wr V) (HW.out.lay at_ r 2 fg bo un iv (by dsimp only; rw [HL.out]; omega))
      rw [hU]
      have H1 := hide H1
      have K1 := hide (HK.out.trans K1)
      clear hU c2 c3 c4 c5 c8 c9 c10 c11 c12 x0 x1 x2 x3 x4 x5 df
      dsimp only at H1
      have hlen : ((wipeN cs1 at_ 2).set at_ ⟨r, 2, fg, bo, un, iv⟩).length = n := by rw [List.length_set, HL.out]
      have HL2 := hide hlen
      obtain ⟨-, -, c2, c3, c4, c5, -, -, c8, c9, c10, c11, c12, -⟩ := H1.out.reads
      rw [hlen] at c3
      obtain ⟨d, hd⟩ : ∃ d, ((wipeN cs1 at_ 2).set at_ ⟨r, 2, fg, bo, un, iv⟩)[at_ + 1]? = some d := ⟨_, List.getElem?_eq_getElem (by rw [hlen]; omega)⟩
      obtain ⟨x0, x1, x2, x3, x4, x5⟩ := own_reads H1.out.own hd
      have df := fun i => H1.out.own.frozen i
      have hi2 : (at_ : Int) + 1 < (n : Int) := by omega
      clear hd hlen
      go_wp2_with fail
      go_region
      obtain ⟨U2, hU, H2, K2'⟩ := named (R := fun V => TmB w0 V z g cap _ ∧ K2 z g U V) (H1.out.lay (at_ + 1) 0 0 fg bo un iv (by dsimp only; rw [HL2.out]; omega))
      rw [hU]
      replace H1 := hide H2
      replace K1 := hide (K1.out.trans K2')
      clear hU c2 c3 c4 c5 c8 c9 c10 c11 c12 x0 x1 x2 x3 x4 x5 df H2 K2'
      dsimp only at H1
      obtain ⟨M, hM⟩ : ∃ M, ((wipeN cs1 at_ 2).set at_ ⟨r, 2, fg, bo, un, iv⟩).set (at_ + 1) ⟨0, 0, fg, bo, un, iv⟩ = M := ⟨_, rfl⟩
      rw [hM] at H1
      have HM := hide hM
      clear hM
      obtain ⟨-, -, c2, -, -, c5, -, -, -, -, -, -, c12, -⟩ := H1.out.reads
      rw [show (((0 : Nat)) : Int) = 0 from rfl] at c5
      have bf := fun i => H1.out.b.frozen i
      go_wp2_with fail
      have H3 := hide (H1.out.setZ ⟨R, C, M, row1, 2, (a, tx), ⟨sr, sw, fg, bo, un, iv⟩, false, bl⟩ 5 (.int .i64 ((2 : Nat) : Int)) rfl rfl)
      have K3 := hide (K1.out.trans (K2.set z g 5 U2 (.int .i64 ((2 : Nat) : Int))))
      clear c2 c5 c12 bf H1 K1
      obtain ⟨V, hV⟩ : ∃ V, U2.setCell ⟨z, 5, none⟩ (.int .i64 2) = V := ⟨_, rfl⟩
      rw [show U2.setCell ⟨z, 5, none⟩ (.int .i64 ((2 : Nat) : Int)) = V from hV] at H3 K3
      rw [hV]
      clear hV
      obtain ⟨-, -, c2, -, -, c5, -, -, -, -, -, -, c12, -⟩ := H3.out.reads
      rw [show (((2 : Nat)) : Int) = 2 from rfl] at c5
      have q1 : ¬ (C : Int) ≤ 2 := by omega
      go_wp2_with fail
      go_region
      go_wp2
      go_end0
      rw [HE.out]
      have hge : ¬ C ≤ 0 + 2 := by omega
      have e : layM ⟨R, C, cs1, row1, 0, (a, tx), ⟨sr, sw, fg, bo, un, iv⟩, false, bl⟩ r 2 = ⟨R, C, M, row1, 2, (a, tx), ⟨sr, sw, fg, bo, un, iv⟩, false, bl⟩ := by unfold layM layL inkT; dsimp only; rw [if_neg hge, decide_eq_false hge, HAT.out, ← HM.out]; rfl
      rw [e]
      exact Mv.mk (H3.out.low (Below.refl _ _).drew) (K3.out.trans K2.drew)
end Go.Proofs.YtmemdhmjhckmaaaDoor
