/- Contract of motions.once. -/
import Derived.Test.YtkmcfcpockpadaaDoorMonce
namespace Go.Proofs.YtkmcfcpockpadaaDoor
open Go.RowKit

theorem startK (s : ByteArray) (k : Nat) (w : World) (hs : s.size ≤ 1048576) : Calls Tryd.prog 24 #[.string s, .int .i64 (plc s k : Nat)] w fun e w' => e = .returned (.int .i64 (plc s (stK s k) : Nat)) ∧ w = w' := by
  have h := start_any s (plc s k : Nat) w hs
  rw [nearP_of s _ (plc_le s k), ← plc_stK] at h
  exact h
theorem endK (s : ByteArray) (k : Nat) (w : World) (hs : s.size ≤ 1048576) : Calls Tryd.prog 25 #[.string s, .int .i64 (plc s k : Nat)] w fun e w' => e = .returned (.int .i64 (plc s (enK s k) : Nat)) ∧ w = w' := by
  have h := end_any s (plc s k : Nat) w hs
  rw [nearP_of s _ (plc_le s k), ← plc_enK] at h
  exact h
def OncePost (s : ByteArray) (k : Nat) (which : Int) (w : World) (e : Ending) (w' : World) : Prop := e = .returned (.int .i64 (plc s (onceK s which k) : Nat)) ∧ Below w.heap.size w w'
theorem once_end {s : ByteArray} {k : Nat} {which : Int} {w w' : World} {x : Int} (hx : x = (plc s (onceK s which k) : Nat)) (hb : Below w.heap.size w w') : OncePost s k which w (.returned (.int .i64 x)) w' := ⟨by rw [hx], hb⟩
set_option maxHeartbeats 4000000 in
theorem once_any (s : ByteArray) (k : Nat) (which : Int) (w : World) (hs : s.size ≤ 1048576) (hk : k ≤ nR s) (hT : UTabs w) : Calls Tryd.prog 15 #[.string s, .int .i64 (plc s k : Nat), .int .i64 which] w (OncePost s k which w) := by
  have HT := hide hT
  clear hT
  have HB := hide (Below.refl w.heap.size w)
  by_cases h0 : which = 0
  · subst h0
    go_enter Tryd.func15, Tryd.ntmps15
    go_wp2_with (go_at_call 22; refine (left_any s k _ hs hk HT.out).mono ?_; rintro e w1 ⟨rfl, b1⟩)
    go_ret
    exact once_end rfl b1
  by_cases h1 : which = 1
  · subst h1
    go_enter Tryd.func15, Tryd.ntmps15
    go_wp2_with (go_at_call 23; refine (right_any s k _ hs hk HT.out).mono ?_; rintro e w1 ⟨rfl, b1⟩)
    go_ret
    exact once_end rfl b1
  by_cases h2 : which = 2
  · subst h2
    go_enter Tryd.func15, Tryd.ntmps15
    go_wp2_with (go_at_call 24; refine (startK s k _ hs).mono ?_; rintro e w' ⟨rfl, rfl⟩)
    go_ret
    exact once_end rfl HB.out
  by_cases h3 : which = 3
  · subst h3
    go_enter Tryd.func15, Tryd.ntmps15
    go_wp2_with (go_at_call 25; refine (endK s k _ hs).mono ?_; rintro e w' ⟨rfl, rfl⟩)
    go_ret
    exact once_end rfl HB.out
  by_cases h4 : which = 4
  · subst h4
    go_enter Tryd.func15, Tryd.ntmps15
    go_wp2_with (go_at_call 26; refine (line_up s k _ hs hk).mono ?_; rintro e w1 ⟨rfl, b1⟩)
    go_ret
    exact once_end rfl b1
  by_cases h5 : which = 5
  · subst h5
    go_enter Tryd.func15, Tryd.ntmps15
    go_wp2_with (go_at_call 26; refine (line_down s k _ hs hk).mono ?_; rintro e w1 ⟨rfl, b1⟩)
    go_ret
    exact once_end rfl b1
  by_cases h6 : which = 6
  · subst h6
    have hb := (skK_spec s isBetween k hk).2.1
    go_enter Tryd.func15, Tryd.ntmps15
    go_wp2_with fail
    refine (skip_between s k _ hs hk HT.out).mono ?_; rintro e w1 ⟨rfl, b1⟩
    replace HB := hide (HB.out.trans (b1.mono HB.out.size))
    clear b1
    go_wp2_with fail
    refine (skip_word s _ _ hs hb (HT.out.below HB.out)).mono ?_; rintro e w2 ⟨rfl, b1⟩
    replace HB := hide (HB.out.trans (b1.mono HB.out.size))
    clear b1
    go_wp2
    go_ret
    exact once_end rfl HB.out
  by_cases h7 : which = 7
  · subst h7
    have hb := Nat.le_trans (bkK_le s isBetween k) hk
    go_enter Tryd.func15, Tryd.ntmps15
    go_wp2_with fail
    refine (back_between s k _ hs hk HT.out).mono ?_; rintro e w1 ⟨rfl, b1⟩
    replace HB := hide (HB.out.trans (b1.mono HB.out.size))
    clear b1
    go_wp2_with fail
    refine (back_word s _ _ hs hb (HT.out.below HB.out)).mono ?_; rintro e w2 ⟨rfl, b1⟩
    replace HB := hide (HB.out.trans (b1.mono HB.out.size))
    clear b1
    go_wp2
    go_ret
    exact once_end rfl HB.out
  by_cases h8 : which = 8
  · subst h8
    have hb := (skK_spec s (isOther (cl s k)) k hk).2.1
    go_enter Tryd.func15, Tryd.ntmps15
    go_wp2_with fail
    refine (here_any s k _ hs hk HT.out).mono ?_; rintro e w1 ⟨rfl, b1⟩
    replace HB := hide (HB.out.trans (b1.mono HB.out.size))
    clear b1
    go_wp2_with fail
    refine (other_any (cl s k) _).mono ?_; rintro e w4 ⟨rfl, hw4⟩
    have HC := hide (show w4.cell? ⟨w1.heap.size, 0, none⟩ = some (.int .i64 (cl s k)) by rw [hw4]; simp)
    replace HB := hide (show Below w.heap.size w w4 by rw [hw4]; exact below_new HB.out _)
    clear hw4
    go_wp2_with fail
    refine (skip_other s k (cl s k) _ _ hs hk (HT.out.below HB.out) HC.out).mono ?_; rintro e w5 ⟨rfl, b1⟩
    replace HB := hide (HB.out.trans (b1.mono HB.out.size))
    clear b1
    go_wp2_with fail
    refine (skip_blank s _ _ hs hb (HT.out.below HB.out)).mono ?_; rintro e w2 ⟨rfl, b1⟩
    replace HB := hide (HB.out.trans (b1.mono HB.out.size))
    clear b1
    go_wp2
    go_ret
    exact once_end rfl HB.out
  by_cases h9 : which = 9
  · subst h9
    have hb := Nat.le_trans (bkK_le s isBlank k) hk
    have HE := hide (show onceK s 9 k = bkK s (isOther (clB s (bkK s isBlank k))) (bkK s isBlank k) from rfl)
    obtain ⟨a, ha⟩ : ∃ a, bkK s isBlank k = a := ⟨_, rfl⟩
    have HA := hide ha
    rw [ha] at hb HE
    clear ha
    go_enter Tryd.func15, Tryd.ntmps15
    go_wp2_with fail
    refine (back_blank s k _ hs hk HT.out).mono ?_; rw [HA.out]; rintro e w1 ⟨rfl, b1⟩
    replace HB := hide (HB.out.trans (b1.mono HB.out.size))
    clear b1
    go_wp2_with fail
    refine (ahead_any s a _ hs hb (HT.out.below HB.out)).mono ?_; rintro e w2 ⟨rfl, b1⟩
    replace HB := hide (HB.out.trans (b1.mono HB.out.size))
    clear b1
    go_wp2_with fail
    refine (other_any (clB s a) _).mono ?_; rintro e w4 ⟨rfl, hw4⟩
    have HC := hide (show w4.cell? ⟨w2.heap.size, 0, none⟩ = some (.int .i64 (clB s a)) by rw [hw4]; simp)
    replace HB := hide (show Below w.heap.size w w4 by rw [hw4]; exact below_new HB.out _)
    clear hw4
    go_wp2_with fail
    refine (back_other s a (clB s a) _ _ hs hb (HT.out.below HB.out) HC.out).mono ?_; rintro e w5 ⟨rfl, b1⟩
    replace HB := hide (HB.out.trans (b1.mono HB.out.size))
    clear b1
    go_wp2
    go_ret
    exact once_end (by rw [HE.out]) HB.out
  by_cases h10 : which = 10
  · subst h10
    go_enter Tryd.func15, Tryd.ntmps15
    go_wp2_with (go_at_call 35; refine (tail_any s k _ hs hk HT.out).mono ?_; rintro e w1 ⟨rfl, b1⟩)
    go_ret
    exact once_end rfl b1
  by_cases h11 : which = 11
  · subst h11
    have hb := stK_n s k
    have h9 := (skK_spec s isBlank (stK s k) hb).2.1
    go_enter Tryd.func15, Tryd.ntmps15
    go_wp2_with fail
    refine (startK s k _ hs).mono ?_; rintro e w' ⟨rfl, rfl⟩
    go_wp2_with fail
    refine (skip_blank s _ _ hs hb HT.out).mono ?_; rintro e w1 ⟨rfl, b1⟩
    replace HB := hide (HB.out.trans (b1.mono HB.out.size))
    clear b1
    go_wp2_with fail
    refine (endK s k _ hs).mono ?_; rintro e w' ⟨rfl, rfl⟩
    go_wp2
    go_ret
    exact once_end (by rw [min_cast, min_plc h9 (enK_n s k)]; rfl) HB.out
  by_cases h12 : which = 12
  · subst h12
    go_enter Tryd.func15, Tryd.ntmps15
    go_wp2
    go_ret
    exact once_end (by rw [show onceK s 12 k = 0 from rfl, plc_zero]; rfl) HB.out
  by_cases h13 : which = 13
  · subst h13
    go_enter Tryd.func15, Tryd.ntmps15
    go_wp2
    go_ret
    exact once_end (by rw [show onceK s 13 k = nR s from rfl, plc_end (Nat.le_refl _)]) HB.out
  have HE := hide (show onceK s which k = k by unfold onceK; rw [if_neg h0, if_neg h1, if_neg h2, if_neg h3, if_neg h4, if_neg h5, if_neg h6, if_neg h7, if_neg h8, if_neg h9, if_neg h10, if_neg h11, if_neg h12, if_neg h13])
  have b0 : (which == 0) = false := beq_eq_false_iff_ne.2 h0
  have b1 : (which == 1) = false := beq_eq_false_iff_ne.2 h1
  have b2 : (which == 2) = false := beq_eq_false_iff_ne.2 h2
  have b3 : (which == 3) = false := beq_eq_false_iff_ne.2 h3
  have b4 : (which == 4) = false := beq_eq_false_iff_ne.2 h4
  have b5 : (which == 5) = false := beq_eq_false_iff_ne.2 h5
  have b6 : (which == 6) = false := beq_eq_false_iff_ne.2 h6
  have b7 : (which == 7) = false := beq_eq_false_iff_ne.2 h7
  have b8 : (which == 8) = false := beq_eq_false_iff_ne.2 h8
  have b9 : (which == 9) = false := beq_eq_false_iff_ne.2 h9
  have b10 : (which == 10) = false := beq_eq_false_iff_ne.2 h10
  have b11 : (which == 11) = false := beq_eq_false_iff_ne.2 h11
  have b12 : (which == 12) = false := beq_eq_false_iff_ne.2 h12
  have b13 : (which == 13) = false := beq_eq_false_iff_ne.2 h13
  clear h0 h1 h2 h3 h4 h5 h6 h7 h8 h9 h10 h11 h12 h13
  go_enter Tryd.func15, Tryd.ntmps15
  go_wp2
  go_ret
  exact once_end (by rw [HE.out]) HB.out
end Go.Proofs.YtkmcfcpockpadaaDoor
