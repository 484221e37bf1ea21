/- Contracts of motions.line, tail and once. -/
import Derived.Test.YtkmcfcpockpadaaDoorMskip
namespace Go.Proofs.YtkmcfcpockpadaaDoor
open Go.RowKit

theorem min_cast (a b : Nat) : min (a : Int) (b : Int) = ((min a b : Nat) : Int) := by omega
set_option maxHeartbeats 1000000 in
theorem line_up (s : ByteArray) (k : Nat) (w : World) (hs : s.size ≤ 1048576) (hk : k ≤ nR s) : Calls Tryd.prog 26 #[.string s, .int .i64 (plc s k : Nat), .int .i64 (-1)] w fun e w' => e = .returned (.int .i64 (plc s (upK s k) : Nat)) ∧ Below w.heap.size w w' := by
  have hp := plc_le s k
  have hn := nR_le s
  have HN := hide (nearP_of s (plc s k) hp)
  have HR := hide (rnN_plc hk)
  have HSK := hide (show rnN s (stP s (plc s k) : Nat) = stK s k from rfl)
  have hsk := stK_le hk
  have hst := stP_le s (plc s k)
  have HU := hide (fun h => up_prog (s := s) hk h)
  have HPS := hide (plc_stK s k)
  obtain ⟨c, hc⟩ : ∃ c : Nat, k - stK s k = c := ⟨_, rfl⟩
  have HCN := hide hc
  have hc2 : (k : Int) - (stK s k : Nat) = (c : Int) := by omega
  rw [hc] at HU
  obtain ⟨p, hp9⟩ : ∃ p, plc s k = p := ⟨_, rfl⟩
  have HP := hide hp9
  rw [hp9] at hp HN HR HSK hst HU HPS ⊢
  obtain ⟨st, hst9⟩ : ∃ x, stP s p = x := ⟨_, rfl⟩
  have HST := hide hst9
  rw [hst9] at HSK hst HU HPS
  obtain ⟨q, hq9⟩ : ∃ x, stK s k = x := ⟨_, rfl⟩
  have HQ := hide hq9
  rw [hq9] at HSK hsk HU HPS hc2
  clear hc hp9 hst9 hq9
  by_cases hq : q = 0
  · have hs0 : st = 0 := by have := HPS.out; rw [hq, plc_zero] at this; omega
    subst hs0
    have HK := hide (show upK s k = k by unfold upK; rw [if_pos (by rw [HQ.out]; exact hq)])
    rw [HK.out, HP.out]
    go_enter Tryd.func26, Tryd.ntmps26
    go_wp2_with fail
    refine (start_any s p _ hs).mono ?_; rw [HN.out, HST.out]; rintro e w' ⟨rfl, rfl⟩
    go_wp2_with fail
    refine (runes_any s p _ hs).mono ?_; rw [HR.out]; rintro e w1 ⟨rfl, hb1⟩
    have HB := hide hb1
    clear hb1
    go_wp2_with fail
    refine (runes_any s _ _ hs).mono ?_; rintro e w2 ⟨rfl, hb1⟩
    replace HB := hide (HB.out.trans (hb1.mono HB.out.size))
    clear hb1
    go_wp2
    go_ret
    exact ⟨rfl, HB.out⟩
  · obtain ⟨h1, h2, h3⟩ := HU.out hq
    have H3 := hide h3
    have HN2 := hide (show nearP s ((st : Int) - 1) = st - 1 by rw [show (st : Int) - 1 = ((st - 1 : Nat) : Int) by omega, nearP_of s _ (by omega)])
    have ht2 := stP_le s (st - 1)
    have HN3 := hide (nearP_of s (stP s (st - 1)) (by omega))
    have hrn := rnN_le s (stP s (st - 1) : Nat)
    clear h2 h3
    obtain ⟨t2, ht29⟩ : ∃ x, stP s (st - 1) = x := ⟨_, rfl⟩
    have HT2 := hide ht29
    rw [ht29] at HN3 hrn ht2 H3
    obtain ⟨rn, hrn9⟩ : ∃ x, rnN s (t2 : Nat) = x := ⟨_, rfl⟩
    have HRN := hide hrn9
    rw [hrn9] at hrn H3
    clear ht29 hrn9
    go_enter Tryd.func26, Tryd.ntmps26
    go_wp2_with fail
    refine (start_any s p _ hs).mono ?_; rw [HN.out, HST.out]; rintro e w' ⟨rfl, rfl⟩
    go_wp2_with fail
    refine (runes_any s p _ hs).mono ?_; rw [HR.out]; rintro e w1 ⟨rfl, hb1⟩
    have HB := hide hb1
    clear hb1
    go_wp2_with fail
    refine (runes_any s st _ hs).mono ?_; rw [HSK.out]; rintro e w2 ⟨rfl, hb1⟩
    replace HB := hide (HB.out.trans (hb1.mono HB.out.size))
    clear hb1
    go_wp2_with fail
    refine (start_any s _ _ hs).mono ?_; rw [HN2.out, HT2.out]; rintro e w' ⟨rfl, rfl⟩
    go_wp2_with fail
    refine (runes_any s t2 _ hs).mono ?_; rw [HRN.out]; rintro e w3 ⟨rfl, hb1⟩
    replace HB := hide (HB.out.trans (hb1.mono HB.out.size))
    clear hb1
    go_wp2_with fail
    refine (place_any s _ _ hs).mono ?_; rintro e w4 ⟨rfl, hb1⟩
    replace HB := hide (HB.out.trans (hb1.mono HB.out.size))
    clear hb1
    go_wp2_with fail
    refine (end_any s t2 _ hs).mono ?_; rw [HN3.out]; rintro e w' ⟨rfl, rfl⟩
    go_wp2
    go_ret
    exact ⟨ret_i (by rw [min_cast, H3.out]), HB.out⟩

set_option maxHeartbeats 1000000 in
theorem line_down (s : ByteArray) (k : Nat) (w : World) (hs : s.size ≤ 1048576) (hk : k ≤ nR s) : Calls Tryd.prog 26 #[.string s, .int .i64 (plc s k : Nat), .int .i64 1] w fun e w' => e = .returned (.int .i64 (plc s (downK s k) : Nat)) ∧ Below w.heap.size w w' := by
  have hp := plc_le s k
  have hn := nR_le s
  have HN := hide (nearP_of s (plc s k) hp)
  have HR := hide (rnN_plc hk)
  have HSK := hide (show rnN s (stP s (plc s k) : Nat) = stK s k from rfl)
  have hsk := stK_le hk
  have hst := stP_le s (plc s k)
  have hen := enP_spec s (plc s k) hp
  have hen1 := hen.1
  have hen2 := hen.2.1
  have HU := hide (fun h => down_prog (s := s) hk h)
  have HPE := hide (plc_enK s k)
  obtain ⟨c, hc⟩ : ∃ c : Nat, k - stK s k = c := ⟨_, rfl⟩
  have hc2 : (k : Int) - (stK s k : Nat) = (c : Int) := by omega
  rw [hc] at HU
  obtain ⟨p, hp9⟩ : ∃ p, plc s k = p := ⟨_, rfl⟩
  have HP := hide hp9
  rw [hp9] at hp HN HR HSK hst HU HPE hen1 hen2 ⊢
  obtain ⟨st, hst9⟩ : ∃ x, stP s p = x := ⟨_, rfl⟩
  have HST := hide hst9
  rw [hst9] at HSK hst
  obtain ⟨en, hen9⟩ : ∃ x, enP s p = x := ⟨_, rfl⟩
  have HEN := hide hen9
  rw [hen9] at HU HPE hen1 hen2
  obtain ⟨q, hq9⟩ : ∃ x, stK s k = x := ⟨_, rfl⟩
  rw [hq9] at HSK hsk hc2
  obtain ⟨r, hr9⟩ : ∃ x, enK s k = x := ⟨_, rfl⟩
  have HRK := hide hr9
  rw [hr9] at HU HPE
  clear hc hp9 hst9 hq9 hr9 hen9 hen
  by_cases hr : r = nR s
  · have hs0 : en = s.size := by have := HPE.out; rw [hr, plc_end (Nat.le_refl _)] at this; omega
    subst hs0
    have HK := hide (show downK s k = k by unfold downK; rw [if_pos (by rw [HRK.out]; exact hr)])
    rw [HK.out, HP.out]
    go_enter Tryd.func26, Tryd.ntmps26
    go_wp2_with fail
    refine (start_any s p _ hs).mono ?_; rw [HN.out, HST.out]; rintro e w' ⟨rfl, rfl⟩
    go_wp2_with fail
    refine (runes_any s p _ hs).mono ?_; rw [HR.out]; rintro e w1 ⟨rfl, hb1⟩
    have HB := hide hb1
    clear hb1
    go_wp2_with fail
    refine (runes_any s st _ hs).mono ?_; rw [HSK.out]; rintro e w2 ⟨rfl, hb1⟩
    replace HB := hide (HB.out.trans (hb1.mono HB.out.size))
    clear hb1
    go_wp2_with fail
    refine (end_any s p _ hs).mono ?_; rw [HN.out, HEN.out]; rintro e w' ⟨rfl, rfl⟩
    go_wp2
    go_ret
    exact ⟨rfl, HB.out⟩
  · obtain ⟨h1, h3⟩ := HU.out hr
    have H3 := hide h3
    have HN2 := hide (show nearP s ((en : Int) + 1) = en + 1 by rw [show (en : Int) + 1 = ((en + 1 : Nat) : Int) by omega, nearP_of s _ h1])
    have ht2 := stP_le s (en + 1)
    have HN3 := hide (nearP_of s (stP s (en + 1)) (by omega))
    have hrn := rnN_le s (stP s (en + 1) : Nat)
    clear h3
    obtain ⟨t2, ht29⟩ : ∃ x, stP s (en + 1) = x := ⟨_, rfl⟩
    have HT2 := hide ht29
    rw [ht29] at HN3 hrn ht2 H3
    obtain ⟨rn, hrn9⟩ : ∃ x, rnN s (t2 : Nat) = x := ⟨_, rfl⟩
    have HRN := hide hrn9
    rw [hrn9] at hrn H3
    clear ht29 hrn9
    go_enter Tryd.func26, Tryd.ntmps26
    go_wp2_with fail
    refine (start_any s p _ hs).mono ?_; rw [HN.out, HST.out]; rintro e w' ⟨rfl, rfl⟩
    go_wp2_with fail
    refine (runes_any s p _ hs).mono ?_; rw [HR.out]; rintro e w1 ⟨rfl, hb1⟩
    have HB := hide hb1
    clear hb1
    go_wp2_with fail
    refine (runes_any s st _ hs).mono ?_; rw [HSK.out]; rintro e w2 ⟨rfl, hb1⟩
    replace HB := hide (HB.out.trans (hb1.mono HB.out.size))
    clear hb1
    go_wp2_with fail
    refine (end_any s p _ hs).mono ?_; rw [HN.out, HEN.out]; rintro e w' ⟨rfl, rfl⟩
    go_wp2_with fail
    refine (start_any s _ _ hs).mono ?_; rw [HN2.out, HT2.out]; rintro e w' ⟨rfl, rfl⟩
    go_wp2_with fail
    refine (runes_any s t2 _ hs).mono ?_; rw [HRN.out]; rintro e w3 ⟨rfl, hb1⟩
    replace HB := hide (HB.out.trans (hb1.mono HB.out.size))
    clear hb1
    go_wp2_with fail
    refine (place_any s _ _ hs).mono ?_; rintro e w4 ⟨rfl, hb1⟩
    replace HB := hide (HB.out.trans (hb1.mono HB.out.size))
    clear hb1
    go_wp2_with fail
    refine (end_any s t2 _ hs).mono ?_; rw [HN3.out]; rintro e w' ⟨rfl, rfl⟩
    go_wp2
    go_ret
    exact ⟨ret_i (by rw [min_cast, H3.out]), HB.out⟩

theorem below_new {w W : World} (h : Below w.heap.size w W) (o : Obj) : Below w.heap.size w (W.alloc o) := h.alloc h.size o
set_option maxHeartbeats 1000000 in
theorem tail_any (s : ByteArray) (k : Nat) (w : World) (hs : s.size ≤ 1048576) (hk : k ≤ nR s) (hT : UTabs w) : Calls Tryd.prog 35 #[.string s, .int .i64 (plc s k : Nat)] w fun e w' => e = .returned (.int .i64 (plc s (tailK s k) : Nat)) ∧ Below w.heap.size w w' := by
  have HT := hide hT
  have hm : min (k + 1) (nR s) ≤ nR s := by omega
  have ha := skK_spec s isBlank _ hm
  obtain ⟨a, ha9⟩ : ∃ x, skK s isBlank (min (k + 1) (nR s)) = x := ⟨_, rfl⟩
  have HA := hide ha9
  rw [ha9] at ha
  have ha1 := ha.2.1
  have hb := skK_spec s (isOther (cl s a)) a ha1
  obtain ⟨b, hb9⟩ : ∃ x, skK s (isOther (cl s a)) a = x := ⟨_, rfl⟩
  have HBB := hide hb9
  have HTK := hide (show tailK s k = if a < b then b - 1 else a by unfold tailK; rw [ha9, hb9])
  rw [hb9] at hb
  have hb1 := hb.1
  have hb2 := hb.2.1
  have HLT := hide (plc_lt_iff (s := s) ha1 hb2)
  clear ha hb ha9 hb9 hT
  go_enter Tryd.func35, Tryd.ntmps35
  go_wp2_with fail
  refine (right_any s k _ hs hk HT.out).mono ?_; rintro e w1 ⟨rfl, b1⟩
  have HB := hide b1
  clear b1
  go_wp2_with fail
  refine (skip_blank s _ _ hs hm (HT.out.below HB.out)).mono ?_; rw [HA.out]; rintro e w2 ⟨rfl, b1⟩
  replace HB := hide (HB.out.trans (b1.mono HB.out.size))
  clear b1
  go_wp2_with fail
  refine (here_any s a _ hs ha1 (HT.out.below HB.out)).mono ?_; rintro e w3 ⟨rfl, b1⟩
  replace HB := hide (HB.out.trans (b1.mono HB.out.size))
  clear b1
  go_wp2_with fail
  refine (other_any (cl s a) _).mono ?_; rintro e w4 ⟨rfl, hw4⟩
  have HC := hide (show w4.cell? ⟨w3.heap.size, 0, none⟩ = some (.int .i64 (cl s a)) by rw [hw4]; simp)
  replace HB := hide (show Below w.heap.size w w4 by rw [hw4]; exact below_new HB.out _)
  clear hw4
  go_wp2_with fail
  refine (skip_other s a (cl s a) _ _ hs ha1 (HT.out.below HB.out) HC.out).mono ?_; rw [HBB.out]; rintro e w5 ⟨rfl, b1⟩
  replace HB := hide (HB.out.trans (b1.mono HB.out.size))
  clear b1
  by_cases h : a < b
  · have h1 : (plc s a : Int) < (plc s b : Nat) := by have := HLT.out.2 h; omega
    go_wp2_with (go_at_call 22; refine (left_any s b _ hs hb2 (HT.out.below HB.out)).mono ?_; rintro e w6 ⟨rfl, b1⟩)
    go_ret
    exact ⟨ret_i (by rw [HTK.out, if_pos h]), HB.out.trans (b1.mono HB.out.size)⟩
  · have h1 : ¬ (plc s a : Int) < (plc s b : Nat) := by intro h2; exact h (HLT.out.1 (by omega))
    go_wp2
    go_ret
    exact ⟨ret_i (by rw [HTK.out, if_neg h]), HB.out⟩
end Go.Proofs.YtkmcfcpockpadaaDoor
