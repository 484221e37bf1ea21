/- The walk of limnerlaw18.MotionsBack. -/
import Derived.Test.YtkmcfcpockpadaaDoorMplace
namespace Go.Proofs.YtkmcfcpockpadaaDoor
open Go.RowKit

theorem count_startsM (s : ByteArray) : ∀ f pos, Lib.runeCountFrom s f pos = (startsFrom s f pos).length
  | 0, _ => rfl
  | f + 1, pos => by
    by_cases h : pos < s.size
    · rw [countFrom_go h, startsFrom_go h, count_startsM s f]; simp; omega
    · rw [Lib.runeCountFrom_end s _ _ h, startsFrom_end h]; rfl
theorem count_nR (s : ByteArray) : Lib.runeCount s = nR s := count_startsM s _ _
theorem right_it (s : ByteArray) : ∀ n k, k + n ≤ nR s → itK s 1 n k = k + n
  | 0, _, _ => rfl
  | n + 1, k, h => by
    show itK s 1 n (min (k + 1) (nR s)) = _
    rw [Nat.min_eq_left (by omega), right_it s n (k + 1) (by omega)]; omega
theorem left_it (s : ByteArray) : ∀ n k, itK s 0 n k = k - n
  | 0, _ => rfl
  | n + 1, k => by
    show itK s 0 n (k - 1) = _
    rw [left_it s n (k - 1)]; omega
theorem to_end {s : ByteArray} (h : nR s ≤ 1000) : plc s (toK s 0 1 (nR s : Nat)) = s.size := by
  unfold toK
  rw [often_of h, show fixK s 0 = 0 from by have := fixK_plc (s := s) (Nat.zero_le (nR s)); rw [plc_zero] at this; exact this, right_it s _ 0 (by omega), Nat.zero_add, plc_end (Nat.le_refl _)]
theorem to_begin {s : ByteArray} (h : nR s ≤ 1000) : plc s (toK s (s.size : Nat) 0 (nR s : Nat)) = 0 := by
  unfold toK
  rw [often_of h, show fixK s (s.size : Nat) = nR s from by have := fixK_plc (s := s) (Nat.le_refl (nR s)); rw [plc_end (Nat.le_refl _)] at this; exact this, left_it, Nat.sub_self, plc_zero]

set_option maxHeartbeats 4000000 in
theorem MotionsBack_any (s : ByteArray) (a : Int) (w : World) (hz : s.size ≤ 9223372036854775807) (hT : UTabs w) : Calls Tryd.prog 5 #[.string s, .int .i64 a] w fun e w' => e = .returned (.bool true) ∧ Below w.heap.size w w' := by
  by_cases hsm : 200 < s.size
  · go_enter Tryd.func5, Tryd.ntmps5
    go_wp2_with fail
    refine (moved_any _ hT).mono ?_; rintro e w1 ⟨rfl, hb1⟩
    go_wp2
    go_ret
    exact ⟨rfl, hb1⟩
  have HT := hide hT
  have HB := hide (Below.refl w.heap.size w)
  clear hT
  have hs : s.size ≤ 1048576 := by omega
  have hn := nR_le s
  have HC := hide (count_nR s)
  have HTE := hide (to_end (s := s) (by omega))
  have HTB := hide (to_begin (s := s) (by omega))
  have hf := fixK_n s a
  obtain ⟨f, hf9⟩ : ∃ f, fixK s a = f := ⟨_, rfl⟩
  have HF := hide hf9
  rw [hf9] at hf
  clear hf9
  have hmr : min (f + 1) (nR s) ≤ nR s := by omega
  have HR := hide (show plc s (toK s (plc s f : Nat) 1 1) = plc s (min (f + 1) (nR s)) by rw [toK_one hf]; rfl)
  have HL := hide (show plc s (toK s (plc s f : Nat) 0 1) = plc s (f - 1) by rw [toK_one hf]; rfl)
  have HRL := hide (fun h : f < nR s => (show plc s (toK s (plc s (min (f + 1) (nR s)) : Nat) 0 1) = plc s f by rw [toK_one hmr]; show plc s (min (f + 1) (nR s) - 1) = _; rw [show min (f + 1) (nR s) - 1 = f by omega]))
  have HLR := hide (fun h : 0 < f => (show plc s (toK s (plc s (f - 1) : Nat) 1 1) = plc s f by rw [toK_one (by omega)]; show plc s (min (f - 1 + 1) (nR s)) = _; rw [show min (f - 1 + 1) (nR s) = f by omega]))
  have g1 : f < nR s → plc s f < plc s (min (f + 1) (nR s)) ∧ plc s f < s.size := fun h => ⟨by rw [Nat.min_eq_left (by omega)]; exact plc_succ_lt h, plc_lt h⟩
  have g2 : 0 < f → plc s (f - 1) < plc s f := fun h => plc_mono (by omega) hf
  have g3 : f = nR s → plc s f = s.size ∧ plc s (min (f + 1) (nR s)) = plc s f := fun h => ⟨by rw [h, plc_end (Nat.le_refl _)], by rw [Nat.min_eq_right (by omega), h]⟩
  have g4 : f = 0 → plc s f = 0 ∧ plc s (f - 1) = 0 := fun h => by subst h; exact ⟨plc_zero s, plc_zero s⟩
  obtain ⟨p, hp9⟩ : ∃ p, plc s f = p := ⟨_, rfl⟩
  obtain ⟨r, hr9⟩ : ∃ p, plc s (min (f + 1) (nR s)) = p := ⟨_, rfl⟩
  obtain ⟨l, hl9⟩ : ∃ p, plc s (f - 1) = p := ⟨_, rfl⟩
  have hps := plc_le s f
  have hrs := plc_le s (min (f + 1) (nR s))
  have HP := hide hp9
  rw [hp9] at HR HL HRL HLR g1 g2 g3 g4 hps
  rw [hr9] at HR HRL g1 g3 hrs
  rw [hl9] at HL HLR g2 g4
  clear hp9 hr9 hl9
  by_cases h1 : f < nR s
  · replace HRL := hide (HRL.out h1)
    obtain ⟨e1, e2⟩ := g1 h1
    by_cases h0 : 0 < f
    · replace HLR := hide (HLR.out h0)
      have e3 := g2 h0
      have q1 : (p : Int) < (s.size : Nat) := by omega
      have q2 : ¬ (r : Int) ≤ (p : Nat) := by omega
      have q3 : 0 < (p : Int) := by omega
      have q4 : ¬ (p : Int) ≤ (l : Nat) := by omega
      have q5 : ((p : Int) == (s.size : Nat)) = false := beq_eq_false_iff_ne.2 (by omega)
      have q6 : ((p : Int) == 0) = false := beq_eq_false_iff_ne.2 (by omega)
      clear g1 g2 g3 g4
      go_enter Tryd.func5, Tryd.ntmps5
      go_wp2_with fail
      refine (fix_any s a _ hs).mono ?_; rw [HF.out, HP.out]; rintro e w2 ⟨rfl, b1⟩
      replace HT := hide (HT.out.below b1); replace HB := hide (HB.out.trans (b1.mono HB.out.size)); clear b1
      go_wp2_with fail
      refine (to_any s (p : Nat) 1 1 _ hs HT.out).mono ?_; rw [HR.out]; rintro e w3 ⟨rfl, b1⟩
      replace HT := hide (HT.out.below b1); replace HB := hide (HB.out.trans (b1.mono HB.out.size)); clear b1
      go_wp2_with fail
      refine (to_any s (p : Nat) 0 1 _ hs HT.out).mono ?_; rw [HL.out]; rintro e w4 ⟨rfl, b1⟩
      replace HT := hide (HT.out.below b1); replace HB := hide (HB.out.trans (b1.mono HB.out.size)); clear b1
      go_wp2_with fail
      refine (to_any s (r : Nat) 0 1 _ hs HT.out).mono ?_; rw [HRL.out]; rintro e w5 ⟨rfl, b1⟩
      replace HT := hide (HT.out.below b1); replace HB := hide (HB.out.trans (b1.mono HB.out.size)); clear b1
      go_wp2_with fail
      refine (to_any s (l : Nat) 1 1 _ hs HT.out).mono ?_; rw [HLR.out]; rintro e w6 ⟨rfl, b1⟩
      replace HT := hide (HT.out.below b1); replace HB := hide (HB.out.trans (b1.mono HB.out.size)); clear b1
      go_wp2_with fail
      refine (count_any s _ hs).mono ?_; rw [HC.out]; rintro e w7 ⟨rfl, b1⟩
      replace HT := hide (HT.out.below b1); replace HB := hide (HB.out.trans (b1.mono HB.out.size)); clear b1
      go_wp2_with fail
      refine (to_any s 0 1 (nR s : Nat) _ hs HT.out).mono ?_; rw [HTE.out]; rintro e w8 ⟨rfl, b1⟩
      replace HT := hide (HT.out.below b1); replace HB := hide (HB.out.trans (b1.mono HB.out.size)); clear b1
      go_wp2_with fail
      refine (to_any s (s.size : Nat) 0 (nR s : Nat) _ hs HT.out).mono ?_; rw [HTB.out]; rintro e w9 ⟨rfl, b1⟩
      replace HT := hide (HT.out.below b1); replace HB := hide (HB.out.trans (b1.mono HB.out.size)); clear b1
      go_wp2_with fail
      refine (moved_any _ HT.out).mono ?_; rintro e w10 ⟨rfl, b1⟩
      replace HB := hide (HB.out.trans (b1.mono HB.out.size)); clear b1
      go_wp2
      go_ret
      exact ⟨rfl, HB.out⟩
    · obtain ⟨e3, e4⟩ := g4 (by omega)
      have q1 : (p : Int) < (s.size : Nat) := by omega
      have q2 : ¬ (r : Int) ≤ (p : Nat) := by omega
      have q3 : ¬ 0 < (p : Int) := by omega
      have q5 : ((p : Int) == (s.size : Nat)) = false := beq_eq_false_iff_ne.2 (by omega)
      have q6 : ((p : Int) == 0) = true := beq_iff_eq.2 (by omega)
      have q7 : ((l : Int) != 0) = false := by simp; omega
      clear e3 e4 g1 g2 g3 g4
      go_enter Tryd.func5, Tryd.ntmps5
      go_wp2_with fail
      refine (fix_any s a _ hs).mono ?_; rw [HF.out, HP.out]; rintro e w2 ⟨rfl, b1⟩
      replace HT := hide (HT.out.below b1); replace HB := hide (HB.out.trans (b1.mono HB.out.size)); clear b1
      go_wp2_with fail
      refine (to_any s (p : Nat) 1 1 _ hs HT.out).mono ?_; rw [HR.out]; rintro e w3 ⟨rfl, b1⟩
      replace HT := hide (HT.out.below b1); replace HB := hide (HB.out.trans (b1.mono HB.out.size)); clear b1
      go_wp2_with fail
      refine (to_any s (p : Nat) 0 1 _ hs HT.out).mono ?_; rw [HL.out]; rintro e w4 ⟨rfl, b1⟩
      replace HT := hide (HT.out.below b1); replace HB := hide (HB.out.trans (b1.mono HB.out.size)); clear b1
      go_wp2_with fail
      refine (to_any s (r : Nat) 0 1 _ hs HT.out).mono ?_; rw [HRL.out]; rintro e w5 ⟨rfl, b1⟩
      replace HT := hide (HT.out.below b1); replace HB := hide (HB.out.trans (b1.mono HB.out.size)); clear b1
      go_wp2_with fail
      refine (count_any s _ hs).mono ?_; rw [HC.out]; rintro e w7 ⟨rfl, b1⟩
      replace HT := hide (HT.out.below b1); replace HB := hide (HB.out.trans (b1.mono HB.out.size)); clear b1
      go_wp2_with fail
      refine (to_any s 0 1 (nR s : Nat) _ hs HT.out).mono ?_; rw [HTE.out]; rintro e w8 ⟨rfl, b1⟩
      replace HT := hide (HT.out.below b1); replace HB := hide (HB.out.trans (b1.mono HB.out.size)); clear b1
      go_wp2_with fail
      refine (to_any s (s.size : Nat) 0 (nR s : Nat) _ hs HT.out).mono ?_; rw [HTB.out]; rintro e w9 ⟨rfl, b1⟩
      replace HT := hide (HT.out.below b1); replace HB := hide (HB.out.trans (b1.mono HB.out.size)); clear b1
      go_wp2_with fail
      refine (moved_any _ HT.out).mono ?_; rintro e w10 ⟨rfl, b1⟩
      replace HB := hide (HB.out.trans (b1.mono HB.out.size)); clear b1
      go_wp2
      go_ret
      exact ⟨rfl, HB.out⟩
  · obtain ⟨e1, e2⟩ := g3 (by omega)
    by_cases h0 : 0 < f
    · replace HLR := hide (HLR.out h0)
      have e3 := g2 h0
      have q1 : ¬ (p : Int) < (s.size : Nat) := by omega
      have q3 : 0 < (p : Int) := by omega
      have q4 : ¬ (p : Int) ≤ (l : Nat) := by omega
      have q5 : ((p : Int) == (s.size : Nat)) = true := beq_iff_eq.2 (by omega)
      have q6 : ((p : Int) == 0) = false := beq_eq_false_iff_ne.2 (by omega)
      have q8 : ((r : Int) != (p : Nat)) = false := by simp; omega
      clear e1 e2 g1 g2 g3 g4
      go_enter Tryd.func5, Tryd.ntmps5
      go_wp2_with fail
      refine (fix_any s a _ hs).mono ?_; rw [HF.out, HP.out]; rintro e w2 ⟨rfl, b1⟩
      replace HT := hide (HT.out.below b1); replace HB := hide (HB.out.trans (b1.mono HB.out.size)); clear b1
      go_wp2_with fail
      refine (to_any s (p : Nat) 1 1 _ hs HT.out).mono ?_; rw [HR.out]; rintro e w3 ⟨rfl, b1⟩
      replace HT := hide (HT.out.below b1); replace HB := hide (HB.out.trans (b1.mono HB.out.size)); clear b1
      go_wp2_with fail
      refine (to_any s (p : Nat) 0 1 _ hs HT.out).mono ?_; rw [HL.out]; rintro e w4 ⟨rfl, b1⟩
      replace HT := hide (HT.out.below b1); replace HB := hide (HB.out.trans (b1.mono HB.out.size)); clear b1
      go_wp2_with fail
      refine (to_any s (l : Nat) 1 1 _ hs HT.out).mono ?_; rw [HLR.out]; rintro e w6 ⟨rfl, b1⟩
      replace HT := hide (HT.out.below b1); replace HB := hide (HB.out.trans (b1.mono HB.out.size)); clear b1
      go_wp2_with fail
      refine (count_any s _ hs).mono ?_; rw [HC.out]; rintro e w7 ⟨rfl, b1⟩
      replace HT := hide (HT.out.below b1); replace HB := hide (HB.out.trans (b1.mono HB.out.size)); clear b1
      go_wp2_with fail
      refine (to_any s 0 1 (nR s : Nat) _ hs HT.out).mono ?_; rw [HTE.out]; rintro e w8 ⟨rfl, b1⟩
      replace HT := hide (HT.out.below b1); replace HB := hide (HB.out.trans (b1.mono HB.out.size)); clear b1
      go_wp2_with fail
      refine (to_any s (s.size : Nat) 0 (nR s : Nat) _ hs HT.out).mono ?_; rw [HTB.out]; rintro e w9 ⟨rfl, b1⟩
      replace HT := hide (HT.out.below b1); replace HB := hide (HB.out.trans (b1.mono HB.out.size)); clear b1
      go_wp2_with fail
      refine (moved_any _ HT.out).mono ?_; rintro e w10 ⟨rfl, b1⟩
      replace HB := hide (HB.out.trans (b1.mono HB.out.size)); clear b1
      go_wp2
      go_ret
      exact ⟨rfl, HB.out⟩
    · obtain ⟨e3, e4⟩ := g4 (by omega)
      have q1 : ¬ (p : Int) < (s.size : Nat) := by omega
      have q3 : ¬ 0 < (p : Int) := by omega
      have q5 : ((p : Int) == (s.size : Nat)) = true := beq_iff_eq.2 (by omega)
      have q6 : ((p : Int) == 0) = true := beq_iff_eq.2 (by omega)
      have q8 : ((r : Int) != (p : Nat)) = false := by simp; omega
      have q7 : ((l : Int) != 0) = false := by simp; omega
      clear e1 e2 e3 e4 g1 g2 g3 g4
      go_enter Tryd.func5, Tryd.ntmps5
      go_wp2_with fail
      refine (fix_any s a _ hs).mono ?_; rw [HF.out, HP.out]; rintro e w2 ⟨rfl, b1⟩
      replace HT := hide (HT.out.below b1); replace HB := hide (HB.out.trans (b1.mono HB.out.size)); clear b1
      go_wp2_with fail
      refine (to_any s (p : Nat) 1 1 _ hs HT.out).mono ?_; rw [HR.out]; rintro e w3 ⟨rfl, b1⟩
      replace HT := hide (HT.out.below b1); replace HB := hide (HB.out.trans (b1.mono HB.out.size)); clear b1
      go_wp2_with fail
      refine (to_any s (p : Nat) 0 1 _ hs HT.out).mono ?_; rw [HL.out]; rintro e w4 ⟨rfl, b1⟩
      replace HT := hide (HT.out.below b1); replace HB := hide (HB.out.trans (b1.mono HB.out.size)); clear b1
      go_wp2_with fail
      refine (count_any s _ hs).mono ?_; rw [HC.out]; rintro e w7 ⟨rfl, b1⟩
      replace HT := hide (HT.out.below b1); replace HB := hide (HB.out.trans (b1.mono HB.out.size)); clear b1
      go_wp2_with fail
      refine (to_any s 0 1 (nR s : Nat) _ hs HT.out).mono ?_; rw [HTE.out]; rintro e w8 ⟨rfl, b1⟩
      replace HT := hide (HT.out.below b1); replace HB := hide (HB.out.trans (b1.mono HB.out.size)); clear b1
      go_wp2_with fail
      refine (to_any s (s.size : Nat) 0 (nR s : Nat) _ hs HT.out).mono ?_; rw [HTB.out]; rintro e w9 ⟨rfl, b1⟩
      replace HT := hide (HT.out.below b1); replace HB := hide (HB.out.trans (b1.mono HB.out.size)); clear b1
      go_wp2_with fail
      refine (moved_any _ HT.out).mono ?_; rintro e w10 ⟨rfl, b1⟩
      replace HB := hide (HB.out.trans (b1.mono HB.out.size)); clear b1
      go_wp2
      go_ret
      exact ⟨rfl, HB.out⟩
end Go.Proofs.YtkmcfcpockpadaaDoor
