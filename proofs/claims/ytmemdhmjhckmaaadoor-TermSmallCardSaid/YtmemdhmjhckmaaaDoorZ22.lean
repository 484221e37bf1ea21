/- Terminal: a rune is shown. Contract of widths.Shown. Terminal: what an action does. Terminal: what bytes do, in plain Lean. -/
import Derived.Test.YtmemdhmjhckmaaaDoorZ18
import Derived.Test.YtmemdhmjhckmaaaDoorZ2
import Derived.Test.YtmemdhmjhckmaaaDoorZ19
import Derived.Test.YtmemdhmjhckmaaaDoorZ20
import Derived.Test.YtmemdhmjhckmaaaDoorZ21
namespace Go.Proofs.YtmemdhmjhckmaaaDoor
open Go.RowKit
set_option maxRecDepth 100000

set_option maxHeartbeats 8000000 in
theorem tshow_d2 {w0 W : World} {z g cap : Nat} (t : Tm) (h : TmB w0 W z g cap t) (hT : Tabs w0) (hR : 2 ≤ t.rows ∧ t.rows ≤ 100) (hC : 8 ≤ t.cols ∧ t.cols ≤ 200) (hL : t.cs.length = t.rows * t.cols) (hrow : t.row < t.rows) (hcol : t.col < t.cols) (hA : allW t.cs) (hA2 : allW (wrapM t).cs) (r : Int) (hr : cells r = 2) (hw : t.waits = false) (hd : t.col + 1 = t.cols) :
    Calls Tryd.prog 52 #[.pointer (some ⟨z, 0, none⟩), .int .i32 r] W (Mv w0 W z g cap (showM t r 2)) := by
  have HOF := hide (wof_is r 2 hr W (hT.w.below h.below))
  have HE0 := hide (show showM t r 2 = layM (wrapM t) r 2 from by unfold showM; rw [if_pos (by unfold wrapsB; rw [hw, hd]; simp)])
  obtain ⟨R, C, cs, row, col, ⟨a, tx⟩, ⟨sr, sw, fg, bo, un, iv⟩, wt, bl⟩ := t
  dsimp only at *
  obtain ⟨n, hne⟩ : ∃ n, R * C = n := ⟨_, rfl⟩
  have hn : n ≤ 20000 := by rw [← hne]; exact Nat.le_trans (Nat.mul_le_mul hR.2 hC.2) (by decide)
  rw [hne] at hL
  obtain ⟨cs1, row1, hf⟩ := wrap_form R C cs row 0 (a, tx) ⟨sr, sw, fg, bo, un, iv⟩ false bl
  have hwm : wrapM ⟨R, C, cs, row, col, (a, tx), ⟨sr, sw, fg, bo, un, iv⟩, wt, bl⟩ = ⟨R, C, cs1, row1, 0, (a, tx), ⟨sr, sw, fg, bo, un, iv⟩, false, bl⟩ := hf
  rw [hwm] at hA2 HE0
  dsimp only at hA2
  have HF := hide hf
  have hcr : cs1.length = n ∧ row1 < R := by
    have e1 := congrArg (fun t => t.cs.length) hf
    have e2 := congrArg Tm.row hf
    unfold feedM at e1 e2
    dsimp only at e1 e2
    split at e1
    · rename_i hlt
      rw [if_pos hlt] at e2
      dsimp only at e1 e2
      exact ⟨by omega, by omega⟩
    · rename_i hlt
      rw [if_neg hlt] at e2
      dsimp only at e1 e2
      have hCn : C ≤ n := by rw [← hne]; exact Nat.le_mul_of_pos_left C (by omega)
      simp at e1
      exact ⟨by omega, by omega⟩
  have hCn : C < n := by
    rw [← hne]
    calc C < 2 * C := by omega
      _ ≤ R * C := Nat.mul_le_mul_right C hR.1
  have HN := hide hcr.1
  have hrow1 := hcr.2
  have HN0 := hide hL
  have HA := hide hA2
  have HE := HE0
  have H := hide h
  obtain ⟨at_, hq⟩ : ∃ q, row1 * C = q := ⟨_, rfl⟩
  have hq1 : at_ + C ≤ n := by
    have h1 : (row1 + 1) * C ≤ R * C := Nat.mul_le_mul_right C (by omega)
    rw [Nat.add_mul, Nat.one_mul, hq, hne] at h1
    exact h1
  have hqw := wrap_mul hq (by omega)
  have HAT := hide (show row1 * C + 0 = at_ by rw [hq, Nat.add_zero])
  have hatn : at_ + 2 ≤ n := by omega
  clear hq hne
  subst hw
  have hcb : ((col : Int) == (C : Int) - 1) = true := by rw [beq_iff_eq]; omega
  clear h hA hA2 hL hcr hf hwm
  go_enter Tryd.func52, Tryd.ntmps52
  go_wp2_with fail
  refine HOF.out.mono ?_; rintro e w1 ⟨rfl, hb1⟩
  replace H := hide (H.out.low hb1)
  have K := hide (K2.of (z := z) (g := g) hb1)
  clear hb1
  obtain ⟨-, -, c2, c3, c4, c5, -, -, -, -, -, -, c12, -⟩ := H.out.reads
  have bf := fun i => H.out.b.frozen i
  go_wp2_with fail
  go_region
  go_wp2_with fail
  have H3 := ((H.out.setZ ⟨R, C, cs, row, 0, (a, tx), ⟨sr, sw, fg, bo, un, iv⟩, false, bl⟩ 5 (.int .i64 ((0 : Nat) : Int)) rfl rfl).setZ ⟨R, C, cs, row, 0, (a, tx), ⟨sr, sw, fg, bo, un, iv⟩, false, bl⟩ 12 (.bool false) rfl rfl).low (Below.refl _ _).drew
  obtain ⟨U, hU, H1, K1⟩ := named (R := fun V => TmB w0 V z g cap _ ∧ K2 z g W V) ⟨H3, ((K.out.trans (K2.set z g 5 _ (.int .i64 ((0 : Nat) : Int)))).trans (K2.set z g 12 _ (.bool false))).trans K2.drew⟩
  have hU : ((w1.setCell ⟨z, 5, none⟩ (.int .i64 0)).setCell ⟨z, 12, none⟩ (.bool false)).drew = U := hU
  rw [hU]
  clear hU H3 c2 c3 c4 c5 c12 bf H K
  have H1 := hide H1
  have K1 := hide K1
  refine (tfeed_any _ H1.out hT (by dsimp only; rw [HN0.out]; exact hn) (by dsimp only; rw [HN0.out]; exact hCn) (by dsimp only; omega) (by dsimp only; omega) (by dsimp only; omega)).mono ?_; rintro e w2 ⟨rfl, H2, K2'⟩
  rw [HF.out] at H2
  have H := hide H2
  have K := hide (K1.out.trans K2')
  clear H2 K2' H1 K1
  obtain ⟨-, -, c2, c3, c4, c5, -, -, c8, c9, c10, c11, c12, -⟩ := H.out.reads
  rw [HN.out] at c3
  go_wp2_with fail
  go_region
  obtain ⟨U, hU, H1, K1⟩ := named (R := fun V => TmB w0 V z g cap ⟨R, C, cs1, row1, 0, (a, tx), ⟨sr, sw, fg, bo, un, iv⟩, false, bl⟩ ∧ K2 z g W V) ⟨H.out.low (Below.refl _ _).drew, K.out.trans K2.drew⟩
  rw [hU]
  have H1 := hide H1
  have K1 := hide K1
  clear hU c2 c3 c4 c5 c8 c9 c10 c11 c12 H K
  go_wp2_with fail
  go_loopw [6] (fun jv wr => ∃ k : Nat, jv = .int .i64 ((at_ + k : Nat) : Int) ∧ k ≤ 2 ∧ Hid (TmB w0 wr z g cap ⟨R, C, wipeN cs1 at_ k, row1, 0, (a, tx), ⟨sr, sw, fg, bo, un, iv⟩, false, bl⟩) ∧ Hid (K2 z g W wr)) (fun jv _ => at_ + 2 - (intOf jv).toNat)
  case atStart => exact ⟨0, rfl, by omega, H1, K1⟩
  case round =>
    clear H1 K1
    obtain ⟨k, rfl, hk, HW, HK⟩ := hrel
    by_cases hlt : k < 2
    · have hkk : ((at_ + k : Nat) : Int) < (at_ : Int) + 2 := by omega
      go_wp2_with fail
      refine (terase_any _ HW.out hT (by dsimp only; rw [wipeN_len, HN.out]; exact hn) (at_ + k) (by dsimp only; exact allW_wipeN HA.out _ _ _ (by rw [wipeN_len, HN.out]; omega))).mono ?_; rintro e w' ⟨rfl, H2, K2'⟩
      have H2 := hide H2
      have K3 := hide (HK.out.trans K2')
      clear K2'
      go_wp2
      exact ⟨⟨k + 1, by go_num, by omega, H2, K3⟩, by simp [intOf]; omega⟩
    · obtain rfl : k = 2 := by omega
      have hkk : ¬ ((at_ + 2 : Nat) : Int) < (at_ : Int) + 2 := by omega
      have hlen := wipeN_len cs1 at_ 2
      rw [HN.out] at hlen
      have HL := hide hlen
      obtain ⟨-, -, c2, c3, c4, c5, -, -, c8, c9, c10, c11, c12, -⟩ := HW.out.reads
      rw [hlen] at c3
      obtain ⟨d, hd⟩ : ∃ d, (wipeN cs1 at_ 2)[at_]? = some d := ⟨_, List.getElem?_eq_getElem (by rw [hlen]; omega)⟩
      obtain ⟨x0, x1, x2, x3, x4, x5⟩ := own_reads HW.out.own hd
      have df := fun i => HW.out.own.frozen i
      clear hd hlen
      go_wp2_with fail
      go_region
      obtain ⟨U, hU, H1, K1⟩ := named (R := fun V => TmB w0 V z g cap _ ∧ K2 z g wr V) (HW.out.lay at_ r 2 fg bo un iv (by dsimp only; rw [HL.out]; omega))
      rw [hU]
      have H1 := hide H1
      have K1 := hide (HK.out.trans K1)
      clear hU c2 c3 c4 c5 c8 c9 c10 c11 c12 x0 x1 x2 x3 x4 x5 df
      dsimp only at H1
      have hlen : ((wipeN cs1 at_ 2).set at_ ⟨r, 2, fg, bo, un, iv⟩).length = n := by rw [List.length_set, HL.out]
      have HL2 := hide hlen
      obtain ⟨-, -, c2, c3, c4, c5, -, -, c8, c9, c10, c11, c12, -⟩ := H1.out.reads
      rw [hlen] at c3
      obtain ⟨d, hd⟩ : ∃ d, ((wipeN cs1 at_ 2).set at_ ⟨r, 2, fg, bo, un, iv⟩)[at_ + 1]? = some d := ⟨_, List.getElem?_eq_getElem (by rw [hlen]; omega)⟩
      obtain ⟨x0, x1, x2, x3, x4, x5⟩ := own_reads H1.out.own hd
      have df := fun i => H1.out.own.frozen i
      have hi2 : (at_ : Int) + 1 < (n : Int) := by omega
      clear hd hlen
      go_wp2_with fail
      go_region
      obtain ⟨U2, hU, H2, K2'⟩ := named (R := fun V => TmB w0 V z g cap _ ∧ K2 z g U V) (H1.out.lay (at_ + 1) 0 0 fg bo un iv (by dsimp only; rw [HL2.out]; omega))
      rw [hU]
      replace H1 := hide H2
      replace K1 := hide (K1.out.trans K2')
      clear hU c2 c3 c4 c5 c8 c9 c10 c11 c12 x0 x1 x2 x3 x4 x5 df H2 K2'
      dsimp only at H1
      obtain ⟨M, hM⟩ : ∃ M, ((wipeN cs1 at_ 2).set at_ ⟨r, 2, fg, bo, un, iv⟩).set (at_ + 1) ⟨0, 0, fg, bo, un, iv⟩ = M := ⟨_, rfl⟩
      rw [hM] at H1
      have HM := hide hM
      clear hM
      obtain ⟨-, -, c2, -, -, c5, -, -, -, -, -, -, c12, -⟩ := H1.out.reads
      rw [show (((0 : Nat)) : Int) = 0 from rfl] at c5
      have bf := fun i => H1.out.b.frozen i
      go_wp2_with fail
      have H3 := hide (H1.out.setZ ⟨R, C, M, row1, 2, (a, tx), ⟨sr, sw, fg, bo, un, iv⟩, false, bl⟩ 5 (.int .i64 ((2 : Nat) : Int)) rfl rfl)
      have K3 := hide (K1.out.trans (K2.set z g 5 U2 (.int .i64 ((2 : Nat) : Int))))
      clear c2 c5 c12 bf H1 K1
      obtain ⟨V, hV⟩ : ∃ V, U2.setCell ⟨z, 5, none⟩ (.int .i64 2) = V := ⟨_, rfl⟩
      rw [show U2.setCell ⟨z, 5, none⟩ (.int .i64 ((2 : Nat) : Int)) = V from hV] at H3 K3
      rw [hV]
      clear hV
      obtain ⟨-, -, c2, -, -, c5, -, -, -, -, -, -, c12, -⟩ := H3.out.reads
      rw [show (((2 : Nat)) : Int) = 2 from rfl] at c5
      have q1 : ¬ (C : Int) ≤ 2 := by omega
      go_wp2_with fail
      go_region
      go_wp2
      go_end0
      rw [HE.out]
      have hge : ¬ C ≤ 0 + 2 := by omega
      have e : layM ⟨R, C, cs1, row1, 0, (a, tx), ⟨sr, sw, fg, bo, un, iv⟩, false, bl⟩ r 2 = ⟨R, C, M, row1, 2, (a, tx), ⟨sr, sw, fg, bo, un, iv⟩, false, bl⟩ := by unfold layM layL inkT; dsimp only; rw [if_neg hge, decide_eq_false hge, HAT.out, ← HM.out]; rfl
      rw [e]
      exact Mv.mk (H3.out.low (Below.refl _ _).drew) (K3.out.trans K2.drew)
end Go.Proofs.YtmemdhmjhckmaaaDoor
namespace Go.Proofs.YtmemdhmjhckmaaaDoor
open Go.RowKit

set_option maxHeartbeats 400000 in
theorem wshown_any (r : Int) (w : World) (hT : WTabs w) :
    Calls Tryd.prog 53 #[.int .i32 r] w fun e w' => e = .returned (.int .i32 (shown r)) ∧ Below w.heap.size w w' := by
  have HT := hide hT
  clear hT
  have hb := cells_bd r
  by_cases h : cells r = 0
  · have H := hide h
    clear h hb
    go_enter Tryd.func53, Tryd.ntmps53
    go_wp2_with (go_at_call 18; refine (wof_any r _ HT.out).mono ?_; rw [H.out]; rintro e w1 ⟨rfl, hb1⟩)
    go_ret
    exact ⟨ret_shown (by rw [shown, if_pos H.out]), hb1⟩
  · have H := hide h
    generalize hc : cells r = c at *
    have HC := hide hc
    have hpos : 1 ≤ c := by omega
    clear h hb hc
    go_enter Tryd.func53, Tryd.ntmps53
    go_wp2_with (go_at_call 18; refine (wof_any r _ HT.out).mono ?_; rw [HC.out]; rintro e w1 ⟨rfl, hb1⟩)
    go_ret
    exact ⟨ret_shown (by rw [shown, HC.out, if_neg H.out]), hb1⟩
end Go.Proofs.YtmemdhmjhckmaaaDoor
namespace Go.Proofs.YtmemdhmjhckmaaaDoor
open Go.RowKit
set_option maxRecDepth 100000

theorem cells_shown (r : Int) : cells (shown r) = 1 ∨ cells (shown r) = 2 := by
  unfold shown
  split
  · exact .inl (by decide +kernel)
  · rename_i h
    unfold cells at h ⊢
    split
    · rename_i h2; rw [if_pos h2] at h; exact absurd rfl h
    · split
      · exact .inr rfl
      · exact .inl rfl
def widN (r : Int) : Nat := (cells r).toNat
theorem wid_shown (r : Int) : (widN (shown r) = 1 ∨ widN (shown r) = 2) ∧ cells (shown r) = widN (shown r) := by
  unfold widN
  rcases cells_shown r with h | h <;> rw [h] <;> decide
theorem tshow_any {w0 W : World} {z g cap : Nat} (t : Tm) (h : TmB w0 W z g cap t) (hT : Tabs w0) (hI : Inv t) (r : Int) (m : Nat) (hm : m = 1 ∨ m = 2) (hr : cells r = m) :
    Calls Tryd.prog 52 #[.pointer (some ⟨z, 0, none⟩), .int .i32 r] W (Mv w0 W z g cap (showM t r m)) := by
  have hA := hI.allW
  have hA2 := hI.wrap.allW
  rcases hm with rfl | rfl
  · by_cases hw : t.waits = true
    · exact tshow_w1 t h hT hI.hR hI.hC hI.hL hI.hrow hI.hcol hA hA2 r hr hw
    · exact tshow_n1 t h hT hI.hR hI.hC hI.hL hI.hrow hI.hcol hA hA2 r hr (by unfold wrapsB; rw [show t.waits = false by simpa using hw]; rfl)
  · by_cases hw : t.waits = true
    · exact tshow_w2 t h hT hI.hR hI.hC hI.hL hI.hrow hI.hcol hA hA2 r hr hw
    · have hwf : t.waits = false := by simpa using hw
      by_cases hd : t.col + 1 = t.cols
      · exact tshow_d2 t h hT hI.hR hI.hC hI.hL hI.hrow hI.hcol hA hA2 r hr hwf hd
      · exact tshow_n2 t h hT hI.hR hI.hC hI.hL hI.hrow hI.hcol hA hA2 r hr (by unfold wrapsB; rw [hwf]; simp [hd])
theorem tseq_any {w0 W : World} {z g cap : Nat} (t : Tm) (h : TmB w0 W z g cap t) (hT : Tabs w0) (hI : Inv t) (k r fin : Int) (pv : Value) (l : List Int) (hv : NumsV W pv l) (hl : l.length ≤ 100000) (h9 : ∀ x ∈ l, 0 ≤ x ∧ x ≤ 9999) :
    Calls Tryd.prog 55 #[.pointer (some ⟨z, 0, none⟩), .agg #[.int .i64 k, .int .i32 r, pv, .int .u8 fin]] W (Mv w0 W z g cap (seqM t l fin)) := by
  have hA := hI.allW
  by_cases h1 : fin = 65
  · exact tseq_f65 t h hT hI.hR hI.hC hI.hL hI.hrow hI.hcol hA k r fin pv l hv hl h9 h1
  by_cases h2 : fin = 66
  · exact tseq_f66 t h hT hI.hR hI.hC hI.hL hI.hrow hI.hcol hA k r fin pv l hv hl h9 h2
  by_cases h3 : fin = 68
  · exact tseq_f68 t h hT hI.hR hI.hC hI.hL hI.hrow hI.hcol hA k r fin pv l hv hl h9 h3
  by_cases h4 : fin = 67
  · exact tseq_f67 t h hT hI.hR hI.hC hI.hL hI.hrow hI.hcol hA k r fin pv l hv hl h9 h4
  by_cases h5 : fin = 72
  · exact tseq_f72 t h hT hI.hR hI.hC hI.hL hI.hrow hI.hcol hA k r fin pv l hv hl h9 h5
  by_cases h6 : fin = 75
  · exact tseq_f75 t h hT hI.hR hI.hC hI.hL hI.hrow hI.hcol hA k r fin pv l hv hl h9 h6
  by_cases h7 : fin = 74
  · exact tseq_f74 t h hT hI.hR hI.hC hI.hL hI.hrow hI.hcol hA k r fin pv l hv hl h9 h7
  by_cases h8 : fin = 109
  · exact tseq_f109 t h hT hI.hR hI.hC hI.hL hI.hrow hI.hcol hA k r fin pv l hv hl h9 h8
  exact tseq_other t h hT hI.hR hI.hC hI.hL hI.hrow hI.hcol hA k r fin pv l hv hl h9 (by
    intro q hq
    simp at hq
    rcases hq with rfl | rfl | rfl | rfl | rfl | rfl | rfl | rfl <;> assumption)
/-- What an action does. -/
def actM (t : Tm) (a : Ac) : Tm :=
  if a.kind = 1 then showM t (shown a.r) (widN (shown a.r)) else if a.kind = 2 then ctlM t a.r else if a.kind = 3 then seqM t a.ps a.fin else t
theorem Inv.act {t : Tm} (h : Inv t) (a : Ac) : Inv (actM t a) := by
  unfold actM
  split
  · exact h.show (wid_shown a.r).1 (wid_shown a.r).2
  split
  · exact h.ctl _
  split
  · exact h.seq _ _
  · exact h
def AcOk (a : Ac) : Prop := a.ps.length ≤ 100000 ∧ ∀ x ∈ a.ps, 0 ≤ x ∧ x ≤ 9999
set_option maxHeartbeats 4000000 in
theorem tact_any {w0 W : World} {z g cap : Nat} (t : Tm) (h : TmB w0 W z g cap t) (hT : Tabs w0) (hI : Inv t) (hb : t.bells ≤ 1000000) (k r fin : Int) (pv : Value) (l : List Int) (hv : NumsV W pv l) (ha : AcOk ⟨k, r, l, fin⟩) :
    Calls Tryd.prog 30 #[.pointer (some ⟨z, 0, none⟩), .agg #[.int .i64 k, .int .i32 r, pv, .int .u8 fin]] W (Mv w0 W z g cap (actM t ⟨k, r, l, fin⟩)) := by
  obtain ⟨A, c, rfl⟩ := hv.form
  have hbl : Below W.heap.size W (W.alloc (.cells #[.int .i64 k, .int .i32 r, .slice A l.length c, .int .u8 fin] 72)) := (Below.refl _ _).alloc (Nat.le_refl _) _
  obtain ⟨len, hlen⟩ : ∃ q, l.length = q := ⟨_, rfl⟩
  rw [hlen] at hbl hv ⊢
  obtain ⟨y, hy⟩ : ∃ q, W.heap.size = q := ⟨_, rfl⟩
  have HBX := hide (Blk.new W 72 [.int .i64 k, .int .i32 r, .slice A len c, .int .u8 fin])
  rw [show [Value.int .i64 k, .int .i32 r, .slice A len c, .int .u8 fin].toArray = #[.int .i64 k, .int .i32 r, .slice A len c, .int .u8 fin] from rfl] at HBX
  have H1 := hide (h.low hbl)
  have K1 := hide (K2.of (z := z) (g := g) hbl)
  have HNV := hide (hv.below hbl)
  obtain ⟨Wa, hWa⟩ : ∃ V, W.alloc (.cells #[.int .i64 k, .int .i32 r, .slice A len c, .int .u8 fin] 72) = V := ⟨_, rfl⟩
  rw [hWa] at H1 K1 HNV HBX
  rw [hy] at HBX
  have HSH := hide (fun W' (hW : Below Wa.heap.size Wa W') (H : TmB w0 W' z g cap t) => tshow_any t H hT hI (shown r) (widN (shown r)) (wid_shown r).1 (wid_shown r).2)
  have HCT := hide (tctl_any t H1.out hT hI hb r)
  have HSQ := hide (tseq_any t H1.out hT hI k r fin (.slice A len c) l HNV.out ha.1 ha.2)
  have HSW := hide (fun W' (H : TmB w0 W' z g cap t) => wshown_any r W' (hT.w.below H.below))
  have e0 := HBX.out.cell (i := 0) rfl
  have e1 := HBX.out.cell (i := 1) rfl
  have e2 := HBX.out.cell (i := 2) rfl
  have e3 := HBX.out.cell (i := 3) rfl
  clear h hbl hv hlen hI ha hb
  by_cases k1 : k = 1
  · subst k1
    have HE := hide (show actM t ⟨1, r, l, fin⟩ = showM t (shown r) (widN (shown r)) from rfl)
    go_enter Tryd.func30, Tryd.ntmps30
    go_wp2_with fail
    refine (HSW.out _ H1.out).mono ?_; rintro e w1 ⟨rfl, hb1⟩
    go_wp2_with fail
    refine (HSH.out _ hb1 (H1.out.low hb1)).mono ?_; rintro e w2 ⟨rfl, H2, K2'⟩
    go_wp2
    go_end0
    rw [HE.out]
    exact Mv.mk H2 ((K1.out.trans (K2.of hb1)).trans K2')
  have n1 : (k == 1) = false := beq_eq_false_iff_ne.2 k1
  by_cases k2 : k = 2
  · subst k2
    have HE := hide (show actM t ⟨2, r, l, fin⟩ = ctlM t r from rfl)
    go_enter Tryd.func30, Tryd.ntmps30
    go_wp2_with fail
    refine HCT.out.mono ?_; rintro e w2 ⟨rfl, H2, K2'⟩
    go_wp2
    go_end0
    rw [HE.out]
    exact Mv.mk H2 (K1.out.trans K2')
  have n2 : (k == 2) = false := beq_eq_false_iff_ne.2 k2
  by_cases k3 : k = 3
  · subst k3
    have HE := hide (show actM t ⟨3, r, l, fin⟩ = seqM t l fin from rfl)
    go_enter Tryd.func30, Tryd.ntmps30
    go_wp2_with fail
    refine HSQ.out.mono ?_; rintro e w2 ⟨rfl, H2, K2'⟩
    go_wp2
    go_end0
    rw [HE.out]
    exact Mv.mk H2 (K1.out.trans K2')
  have n3 : (k == 3) = false := beq_eq_false_iff_ne.2 k3
  have HE := hide (show actM t ⟨k, r, l, fin⟩ = t by unfold actM; dsimp only; rw [if_neg k1, if_neg k2, if_neg k3])
  go_enter Tryd.func30, Tryd.ntmps30
  go_wp2
  go_end0
  rw [HE.out]
  exact Mv.mk H1.out K1.out
end Go.Proofs.YtmemdhmjhckmaaaDoor
namespace Go.Proofs.YtmemdhmjhckmaaaDoor
open Go.RowKit
set_option maxRecDepth 100000

def stepM (t : Tm) (x : Int) : Tm := (feed t.p x).2.foldl actM { t with p := (feed t.p x).1 }
def writeTo (t : Tm) (s : ByteArray) : Nat → Tm
  | 0 => t
  | k + 1 => stepM (writeTo t s k) ((s.get! k).toNat : Int)
def writeM (t : Tm) (s : ByteArray) : Tm := writeTo t s s.size
theorem ground_two (x : Int) : (ground x).2.length ≤ 1 := by
  unfold ground
  (repeat' split) <;> simp
theorem feed_two (p : Nat × ByteArray) (x : Int) : (feed p x).2.length ≤ 2 := by
  unfold feed
  split
  · have := ground_two x; omega
  split
  · unfold inRune
    split
    · simp
    split
    · simp
    · have := ground_two x; simp; omega
  · unfold inSeq
    (repeat' split) <;> (try simp)
    unfold csi
    split <;> simp
theorem pgo_bd : ∀ (s : List UInt8) (d l : List Int) (n : Int), (0 ≤ n ∧ n ≤ 9999) → (∀ x ∈ d, 0 ≤ x ∧ x ≤ 9999) → pgo s d n = some l → ∀ x ∈ l, 0 ≤ x ∧ x ≤ 9999
  | [], d, l, n, hn, hd, h => by
    unfold pgo at h
    injection h with h
    rw [← h]
    intro x hx
    rcases List.mem_append.1 hx with h | h
    · exact hd x h
    · simp at h; rw [h]; exact hn
  | c :: r, d, l, n, hn, hd, h => by
    unfold pgo at h
    split at h
    · refine pgo_bd r _ l 0 ⟨by decide, by decide⟩ (fun x hx => ?_) h
      rcases List.mem_append.1 hx with h | h
      · exact hd x h
      · simp at h; rw [h]; exact hn
    · split at h
      · exact pgo_bd r d l _ (by omega) hd h
      · cases h
theorem params_ok {s : ByteArray} {l : List Int} (h : params s = some l) : l.length ≤ 16 ∧ ∀ x ∈ l, 0 ≤ x ∧ x ≤ 9999 := by
  unfold params at h
  split at h
  · injection h with h; rw [← h]; exact ⟨by decide, fun x hx => by simp at hx⟩
  · cases hp : pgo s.data.toList [] 0 with
    | none => rw [hp] at h; cases h
    | some q =>
      rw [hp] at h
      change few q = some l at h
      unfold few at h
      split at h
      · injection h with h
        subst h
        exact ⟨by assumption, pgo_bd _ _ _ _ ⟨by decide, by decide⟩ (fun x hx => by simp at hx) hp⟩
      · cases h
theorem ok_nil (k r f : Int) : AcOk ⟨k, r, [], f⟩ := ⟨by simp, fun x hx => by simp at hx⟩
theorem ground_acs (x : Int) : ∀ a ∈ (ground x).2, AcOk a := by
  unfold ground
  (repeat' split) <;> intro a ha <;> simp at ha
  · rw [ha]; exact ok_nil _ _ _
  · rw [ha]; exact ok_nil _ _ _
  · rw [ha]; exact ok_nil _ _ _
theorem feed_acs (p : Nat × ByteArray) (x : Int) : ∀ a ∈ (feed p x).2, AcOk a := by
  unfold feed
  split
  · exact ground_acs x
  split
  · unfold inRune
    split
    · intro a ha; simp at ha; rw [ha]; exact ok_nil _ _ _
    split
    · intro a ha; simp at ha
    · intro a ha
      rcases List.mem_cons.1 ha with h | h
      · rw [h]; exact ok_nil _ _ _
      · exact ground_acs x a h
  · unfold inSeq
    (repeat' split) <;> intro a ha <;> (try (simp at ha; done)) <;> (try (simp at ha; rw [ha]; exact ok_nil _ _ _))
    unfold csi at ha
    split at ha
    · rename_i l hl
      simp at ha
      rw [ha]
      have := params_ok hl
      exact ⟨Nat.le_trans this.1 (by decide), this.2⟩
    · simp at ha; rw [ha]; exact ok_nil _ _ _
theorem act_p (t : Tm) (a : Ac) : (actM t a).p = t.p := by
  have hf : ∀ t : Tm, (feedM t).p = t.p := fun t => by unfold feedM; split <;> rfl
  have hc : ∀ (t : Tm) (n : Int) (f q : Nat), (clearM t n f q).p = t.p := fun t n f q => by
    unfold clearM; dsimp only; (repeat' split) <;> rfl
  unfold actM
  split
  · unfold showM
    show (layM (if _ then _ else _) _ _).p = _
    have : ∀ (t : Tm) r m, (layM t r m).p = t.p := fun _ _ _ => rfl
    rw [this]
    split
    · exact hf _
    · rfl
  split
  · unfold ctlM
    (repeat' split) <;> (try rfl)
    exact hf _
  split
  · unfold seqM
    dsimp only
    (repeat' split) <;> (try rfl) <;> exact hc _ _ _ _
  · rfl
theorem act_bells (t : Tm) (a : Ac) : (actM t a).bells ≤ t.bells + 1 := by
  have hf : ∀ t : Tm, (feedM t).bells = t.bells := fun t => by unfold feedM; split <;> rfl
  have hc : ∀ (t : Tm) (n : Int) (f q : Nat), (clearM t n f q).bells = t.bells := fun t n f q => by
    unfold clearM; dsimp only; (repeat' split) <;> rfl
  unfold actM
  split
  · unfold showM
    show (layM (if _ then _ else _) _ _).bells ≤ _
    have : ∀ (t : Tm) r m, (layM t r m).bells = t.bells := fun _ _ _ => rfl
    rw [this]
    split
    · unfold wrapM; rw [hf]; exact Nat.le_succ _
    · exact Nat.le_succ _
  split
  · unfold ctlM
    (repeat' split) <;> (try exact Nat.le_succ _)
    · exact Nat.le_refl _
    · show (feedM t).bells ≤ _; rw [hf]; exact Nat.le_succ _
  split
  · unfold seqM
    dsimp only
    (repeat' split) <;> (try exact Nat.le_succ _)
    · show (clearM _ _ _ _).bells ≤ _; rw [hc]; exact Nat.le_succ _
    · show (clearM _ _ _ _).bells ≤ _; rw [hc]; exact Nat.le_succ _
  · exact Nat.le_succ _
theorem acts_facts (t : Tm) : ∀ (L : List Ac), Inv t → Inv (L.foldl actM t) ∧ (L.foldl actM t).p = t.p ∧ (L.foldl actM t).bells ≤ t.bells + L.length
  | [], h => ⟨h, rfl, Nat.le_refl _⟩
  | a :: L, h => by
    obtain ⟨h1, h2, h3⟩ := acts_facts (actM t a) L (h.act a)
    have := act_bells t a
    exact ⟨h1, h2.trans (act_p t a), by simp only [List.foldl_cons, List.length_cons]; omega⟩
theorem Inv.setP {t : Tm} (h : Inv t) (p : Nat × ByteArray) : Inv { t with p := p } := ⟨h.hR, h.hC, h.hL, h.hrow, h.hcol, h.hv, h.hs⟩
theorem step_facts {t : Tm} (h : Inv t) (x : Int) : Inv (stepM t x) ∧ (stepM t x).p = (feed t.p x).1 ∧ (stepM t x).bells ≤ t.bells + 2 := by
  obtain ⟨h1, h2, h3⟩ := acts_facts { t with p := (feed t.p x).1 } (feed t.p x).2 (h.setP _)
  have := feed_two t.p x
  exact ⟨h1, h2, by unfold stepM; dsimp only at h3; omega⟩
theorem write_facts {t : Tm} (h : Inv t) (s : ByteArray) {K : Nat} (hp : StOk K t.p) : ∀ k, Inv (writeTo t s k) ∧ StOk (K + k) (writeTo t s k).p ∧ (writeTo t s k).bells ≤ t.bells + 2 * k
  | 0 => ⟨h, hp, Nat.le_refl _⟩
  | k + 1 => by
    obtain ⟨h1, h2, h3⟩ := write_facts h s hp k
    obtain ⟨g1, g2, g3⟩ := step_facts h1 ((s.get! k).toNat : Int)
    refine ⟨g1, ?_, by rw [writeTo]; omega⟩
    rw [writeTo, g2]
    exact feed_ok h2
end Go.Proofs.YtmemdhmjhckmaaaDoor
