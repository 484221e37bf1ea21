/- Contract of the reference's sequence. -/
import Derived.Test.YtiilgeinkocanaaDoorKrsmall
namespace Go.Proofs.YtiilgeinkocanaaDoor
open Go.RowKit

theorem arrow_rest (s : ByteArray) (x : Int) (h0 : 0 ≤ x) (h1 : x ≤ 255) (hz : 2 ≤ s.size) : arrowS ((s ++ strOfNums [x]).extract 2 (s ++ strOfNums [x]).size) = if (s ++ strOfNums [x]).size = 3 then arrowK x else 0 := by
  have hs : (s ++ strOfNums [x]).size = s.size + 1 := str_size s x
  by_cases h : s.size = 2
  · rw [if_pos (by omega)]
    have := join_tail s (strOfNums [x])
    rw [h] at this
    rw [this, arrowS_one x h0 h1]
  · rw [if_neg (by omega)]
    exact arrowS_long _ (by rw [ByteArray.size_extract]; omega)
theorem conv_dr (w : World) (x : Int) (n : Nat) (hn : w.heap.size = n) : (convert 34 9 (.slice (some ⟨n, 0, none⟩) 1 1)).run Tryd.prog ((w.alloc (.cells #[.int .u8 x] 5)).drew) = .ok (.string (strOfNums [x])) ((w.alloc (.cells #[.int .u8 x] 5)).drew) := by
  subst hn
  exact conv_1 w.drew x
set_option maxRecDepth 100000 in
set_option maxHeartbeats 4000000 in
theorem rseq_any (R : Nat) (s : ByteArray) (x : Int) (w : World) (h0 : 0 ≤ x) (h1 : x ≤ 255) (hz : 2 ≤ s.size) (hz9 : s.size ≤ 900000) (h : Blk w R 36 (rB s false (.slice none 0 0))) :
    Calls Tryd.prog 38 #[.pointer (some ⟨R, 0, none⟩), .int .u8 x] w (RFPost R [R] (seqK s x) w) := by
  have r0 := h.cell (i := 0) rfl
  have hcv := conv_dr w x
  obtain ⟨W1, hW1⟩ : ∃ W1, (w.alloc (.cells #[.int .u8 x] 5)).drew = W1 := ⟨_, rfl⟩
  have hD1 : Blk W1 R 36 (rB s false (.slice none 0 0)) := by rw [← hW1]; exact (h.alloc _).drew
  have HX1 := hide (show Ex [R] w W1 by rw [← hW1]; have := ex_alloc (Ex.refl [R] w) (.cells #[.int .u8 x] 5); exact ⟨this.os, this.tape, this.output, this.size, this.block⟩)
  have r1 := hD1.cell (i := 0) rfl
  have rf1 := hD1.frozen 0
  have HD1 := hide hD1
  have HAR := hide (arrow_rest s x h0 h1 hz)
  obtain ⟨t, ht⟩ : ∃ t, s ++ strOfNums [x] = t := ⟨_, rfl⟩
  have hts : t.size = s.size + 1 := by rw [← ht, str_size]
  have hsz1 : (strOfNums [x]).size = 1 := rfl
  rw [ht] at HAR
  have HSK := hide (show seqK s x = if x < 32 ∨ 127 ≤ x then stays (thenK (kBad s) x) else if x < 64 then ((false, t), []) else match seqEnd t x with | none => ((true, ⟨#[]⟩), []) | some l => ((false, ⟨#[]⟩), l) by unfold seqK; rw [ht]; rfl)
  rw [hW1] at hcv
  clear h hD1
  by_cases d1 : x < 32
  · have HR := hide (show seqK s x = stays (thenK (kBad s) x) by rw [HSK.out, if_pos (.inl d1)])
    go_enter Tryd.func38, Tryd.ntmps38
    go_wp2
    go_region
    go_wp2_with fail
    refine (ranew_any R s s false _ x _ h0 h1 HD1.out).mono ?_
    rintro e w4 ⟨u4, rfl, h5, h6, h7, h8⟩
    have H5 := hide (rk_after HX1.out h5 h6 h7 h8)
    clear h5 h6 h7 h8
    go_wp2_with fail
    go_ret
    rw [HR.out]
    exact rf_of H5.out
  by_cases d2 : 126 < x
  · have HR := hide (show seqK s x = stays (thenK (kBad s) x) by rw [HSK.out, if_pos (.inr (by omega))])
    go_enter Tryd.func38, Tryd.ntmps38
    go_wp2
    go_region
    go_wp2_with fail
    refine (ranew_any R s s false _ x _ h0 h1 HD1.out).mono ?_
    rintro e w4 ⟨u4, rfl, h5, h6, h7, h8⟩
    have H5 := hide (rk_after HX1.out h5 h6 h7 h8)
    clear h5 h6 h7 h8
    go_wp2_with fail
    go_ret
    rw [HR.out]
    exact rf_of H5.out
  by_cases d3 : x < 64
  · have HR := hide (show seqK s x = stays (t, []) by rw [HSK.out, if_neg (by omega), if_pos d3]; rfl)
    go_enter Tryd.func38, Tryd.ntmps38
    go_wp2
    go_region
    go_wp2_with fail
    go_ret
    rw [HR.out]
    exact rf_of (rk_wait HX1.out HD1.out)
  have HSK2 := hide (show seqK s x = match seqEnd t x with | none => ((true, ⟨#[]⟩), []) | some l => ((false, ⟨#[]⟩), l) by rw [HSK.out, if_neg (by omega), if_neg d3])
  have HX2 := hide (ex_set HX1.out 0 (.string ⟨#[]⟩))
  have HD2 := hide (show Blk (W1.setCell ⟨R, 0, none⟩ (.string ⟨#[]⟩)) R 36 (rB ⟨#[]⟩ false (.slice none 0 0)) from HD1.out.set 0 _)
  obtain ⟨W2, hW2⟩ : ∃ W2, W1.setCell ⟨R, 0, none⟩ (.string ⟨#[]⟩) = W2 := ⟨_, rfl⟩
  rw [hW2] at HX2 HD2
  have r2 := HD2.out.cell (i := 1) rfl
  have rf2 := HD2.out.frozen 1
  have HEND : seqEnd t x = if t.extract 2 t.size = beginS then none else if t.size = 3 ∧ 0 < arrowK x then some (kOne (arrowK x)) else if t.extract 2 t.size = ⟨#[49, 126]⟩ ∨ t.extract 2 t.size = ⟨#[55, 126]⟩ then some (kOne 12) else if t.extract 2 t.size = ⟨#[52, 126]⟩ ∨ t.extract 2 t.size = ⟨#[56, 126]⟩ then some (kOne 13) else if t.extract 2 t.size = ⟨#[51, 126]⟩ then some (kOne 14) else some (kBad t) := rfl
  have hrs : (t.extract 2 t.size).size = t.size - 2 := by rw [ByteArray.size_extract]; omega
  obtain ⟨q, hq⟩ : ∃ q, t.extract 2 t.size = q := ⟨_, rfl⟩
  rw [hq] at HAR HEND hrs
  have HRA := hide (fun W => rarrow_any q W)
  have hq2 : t.extract 2 (s.size + 1) = q := by rw [← hts]; exact hq
  by_cases e0 : q = ⟨#[49, 126]⟩
  · have HR := hide (show seqK s x = stays (⟨#[]⟩, kOne 12) by
      have hl : q.size = 2 := by rw [e0]; rfl
      rw [HSK2.out, HEND, e0, if_neg (by decide), if_neg (by omega)]
      rfl)
    have e : (q.toList == [49, 126]) = true := str_eqK (decide_eq_true e0)
    clear HEND HAR hrs e0
    go_enter Tryd.func38, Tryd.ntmps38
    go_wp2
    go_region
    go_wp2_with fail
    refine (rkey_any 12 0 ⟨#[]⟩ _).mono ?_
    rintro e w4 ⟨rfl, rfl⟩
    go_wp2_with fail
    go_ret
    rw [HR.out]
    exact rf_of (rk_key (k := ⟨12, 0, ⟨#[]⟩⟩) HX2.out HD2.out)
  have f0 : (q.toList == [49, 126]) = false := str_eqK (decide_eq_false e0)
  by_cases e1 : q = ⟨#[55, 126]⟩
  · have HR := hide (show seqK s x = stays (⟨#[]⟩, kOne 12) by
      have hl : q.size = 2 := by rw [e1]; rfl
      rw [HSK2.out, HEND, e1, if_neg (by decide), if_neg (by omega)]
      rfl)
    have e : (q.toList == [55, 126]) = true := str_eqK (decide_eq_true e1)
    clear HEND HAR hrs e1
    go_enter Tryd.func38, Tryd.ntmps38
    go_wp2
    go_region
    go_wp2_with fail
    refine (rkey_any 12 0 ⟨#[]⟩ _).mono ?_
    rintro e w4 ⟨rfl, rfl⟩
    go_wp2_with fail
    go_ret
    rw [HR.out]
    exact rf_of (rk_key (k := ⟨12, 0, ⟨#[]⟩⟩) HX2.out HD2.out)
  have f1 : (q.toList == [55, 126]) = false := str_eqK (decide_eq_false e1)
  by_cases e2 : q = ⟨#[52, 126]⟩
  · have HR := hide (show seqK s x = stays (⟨#[]⟩, kOne 13) by
      have hl : q.size = 2 := by rw [e2]; rfl
      rw [HSK2.out, HEND, e2, if_neg (by decide), if_neg (by omega)]
      rfl)
    have e : (q.toList == [52, 126]) = true := str_eqK (decide_eq_true e2)
    clear HEND HAR hrs e2
    go_enter Tryd.func38, Tryd.ntmps38
    go_wp2
    go_region
    go_wp2_with fail
    refine (rkey_any 13 0 ⟨#[]⟩ _).mono ?_
    rintro e w4 ⟨rfl, rfl⟩
    go_wp2_with fail
    go_ret
    rw [HR.out]
    exact rf_of (rk_key (k := ⟨13, 0, ⟨#[]⟩⟩) HX2.out HD2.out)
  have f2 : (q.toList == [52, 126]) = false := str_eqK (decide_eq_false e2)
  by_cases e3 : q = ⟨#[56, 126]⟩
  · have HR := hide (show seqK s x = stays (⟨#[]⟩, kOne 13) by
      have hl : q.size = 2 := by rw [e3]; rfl
      rw [HSK2.out, HEND, e3, if_neg (by decide), if_neg (by omega)]
      rfl)
    have e : (q.toList == [56, 126]) = true := str_eqK (decide_eq_true e3)
    clear HEND HAR hrs e3
    go_enter Tryd.func38, Tryd.ntmps38
    go_wp2
    go_region
    go_wp2_with fail
    refine (rkey_any 13 0 ⟨#[]⟩ _).mono ?_
    rintro e w4 ⟨rfl, rfl⟩
    go_wp2_with fail
    go_ret
    rw [HR.out]
    exact rf_of (rk_key (k := ⟨13, 0, ⟨#[]⟩⟩) HX2.out HD2.out)
  have f3 : (q.toList == [56, 126]) = false := str_eqK (decide_eq_false e3)
  by_cases e4 : q = ⟨#[51, 126]⟩
  · have HR := hide (show seqK s x = stays (⟨#[]⟩, kOne 14) by
      have hl : q.size = 2 := by rw [e4]; rfl
      rw [HSK2.out, HEND, e4, if_neg (by decide), if_neg (by omega)]
      rfl)
    have e : (q.toList == [51, 126]) = true := str_eqK (decide_eq_true e4)
    clear HEND HAR hrs e4
    go_enter Tryd.func38, Tryd.ntmps38
    go_wp2
    go_region
    go_wp2_with fail
    refine (rkey_any 14 0 ⟨#[]⟩ _).mono ?_
    rintro e w4 ⟨rfl, rfl⟩
    go_wp2_with fail
    go_ret
    rw [HR.out]
    exact rf_of (rk_key (k := ⟨14, 0, ⟨#[]⟩⟩) HX2.out HD2.out)
  have f4 : (q.toList == [51, 126]) = false := str_eqK (decide_eq_false e4)
  by_cases e5 : q = ⟨#[50, 48, 48, 126]⟩
  · have HR := hide (show seqK s x = ((true, ⟨#[]⟩), []) by rw [HSK2.out, HEND, if_pos (show q = beginS from e5)])
    have e : (q.toList == [50, 48, 48, 126]) = true := str_eqK (decide_eq_true e5)
    clear HEND HAR hrs e5
    go_enter Tryd.func38, Tryd.ntmps38
    go_wp2
    go_region
    go_wp2_with fail
    go_ret
    rw [HR.out]
    exact ⟨_, rfl, OwnK.nil _ _, fun _ => rfl, ⟨[R], .inr ⟨rfl, _, .inl ⟨rfl, rfl, rfl⟩, HD2.out.set 1 _, World.ownsRow_nil _ _ _ _⟩, fun k hk => .inl hk⟩, ex_set HX2.out 1 _⟩
  have f5 : (q.toList == [50, 48, 48, 126]) = false := str_eqK (decide_eq_false e5)
  have HEND2 : seqEnd t x = if t.size = 3 ∧ 0 < arrowK x then some (kOne (arrowK x)) else some (kBad t) := by
    rw [HEND, if_neg (show ¬ q = beginS from e5)]
    split
    · rfl
    · have g1 : ¬ (q = ⟨#[49, 126]⟩ ∨ q = ⟨#[55, 126]⟩) := by rintro (h | h); exact e0 h; exact e1 h
      have g2 : ¬ (q = ⟨#[52, 126]⟩ ∨ q = ⟨#[56, 126]⟩) := by rintro (h | h); exact e2 h; exact e3 h
      simp only [if_neg g1, if_neg g2, if_neg e4]
  obtain ⟨y, hy⟩ : ∃ y, arrowS q = y := ⟨_, rfl⟩
  rw [hy] at HRA
  have hy2 := HAR.out
  rw [hy] at hy2
  by_cases hp : 0 < y
  · have HR := hide (show seqK s x = stays (⟨#[]⟩, kOne y) by
      have h3 : t.size = 3 := by
        by_cases h3 : t.size = 3
        · exact h3
        · rw [if_neg h3] at hy2; omega
      rw [if_pos h3] at hy2
      rw [HSK2.out, HEND2, if_pos ⟨h3, by omega⟩, hy2]
      rfl)
    clear HEND HEND2 HAR hrs e0 e1 e2 e3 e4 e5 hy hy2
    go_enter Tryd.func38, Tryd.ntmps38
    go_wp2
    go_region
    go_wp2_with fail
    refine (HRA.out _).mono ?_
    rintro e w3 ⟨rfl, hb3⟩
    have HX3 := hide (ex_below HX2.out hb3)
    have HD3 := hide (HD2.out.below hb3)
    clear hb3
    go_wp2_with fail
    refine (HRA.out _).mono ?_
    rintro e w4 ⟨rfl, hb4⟩
    have HX4 := hide (ex_below HX3.out hb4)
    have HD4 := hide (HD3.out.below hb4)
    clear hb4
    go_wp2_with fail
    refine (rkey_any y 0 ⟨#[]⟩ _).mono ?_
    rintro e w5 ⟨rfl, rfl⟩
    go_wp2_with fail
    go_ret
    rw [HR.out]
    exact rf_of (rk_key (k := ⟨y, 0, ⟨#[]⟩⟩) HX4.out HD4.out)
  · have HR := hide (show seqK s x = stays (⟨#[]⟩, kBad t) by
      rw [HSK2.out, HEND2, if_neg (by rintro ⟨h3, h4⟩; rw [if_pos h3] at hy2; omega)]
      rfl)
    clear HEND HEND2 HAR hrs e0 e1 e2 e3 e4 e5 hy hy2
    go_enter Tryd.func38, Tryd.ntmps38
    go_wp2
    go_region
    go_wp2_with fail
    refine (HRA.out _).mono ?_
    rintro e w3 ⟨rfl, hb3⟩
    have HX3 := hide (ex_below HX2.out hb3)
    have HD3 := hide (HD2.out.below hb3)
    clear hb3
    go_wp2_with fail
    refine (rkey_any 0 0 t _).mono ?_
    rintro e w5 ⟨rfl, rfl⟩
    go_wp2_with fail
    go_ret
    rw [HR.out]
    exact rf_of (rk_key (k := ⟨0, 0, t⟩) HX3.out HD3.out)
end Go.Proofs.YtiilgeinkocanaaDoor
