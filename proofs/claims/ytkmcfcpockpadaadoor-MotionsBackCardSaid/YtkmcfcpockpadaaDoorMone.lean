/- Contracts of motions: left, right, here, ahead. -/
import Derived.Test.YtkmcfcpockpadaaDoorCbackp
import Derived.Test.YtkmcfcpockpadaaDoorMplain
import Derived.Test.YtkmcfcpockpadaaDoorPprog
namespace Go.Proofs.YtkmcfcpockpadaaDoor
open Go.RowKit

theorem back_plc {s : ByteArray} {k : Nat} (h : k < nR s) : Utf8.decode (s.extract 0 (plc s (k + 1))) (lastS (s.extract 0 (plc s (k + 1)))) = Utf8.decode s (plc s k) := by
  have h1 := back_at (plc_mem h)
  rw [← plc_next h] at h1
  have h2 := plc_le s (k + 1)
  have h3 := plc_succ_lt h
  rw [last_eq (by simp; omega)] at h1
  exact h1
set_option maxHeartbeats 400000 in
theorem right_any (s : ByteArray) (k : Nat) (w : World) (hs : s.size ≤ 1048576) (hk : k ≤ nR s) (hT : UTabs w) : Calls Tryd.prog 23 #[.string s, .int .i64 (plc s k : Nat)] w fun e w' => e = .returned (.int .i64 (plc s (min (k + 1) (nR s)) : Nat)) ∧ Below w.heap.size w w' := by
  have HT := hide hT
  clear hT
  have hp := plc_le s k
  by_cases h : k < nR s
  · have HN := hide (plc_next h)
    have hl := plc_lt h
    have hd := dec_in s _ hl
    rw [Nat.min_eq_left (show k + 1 ≤ nR s by omega)]
    obtain ⟨p, hp9⟩ : ∃ p, plc s k = p := ⟨_, rfl⟩
    rw [hp9] at hl hd HN hp ⊢
    clear hp9
    go_enter Tryd.func23, Tryd.ntmps23
    go_wp2_with (go_at_call 40; refine (next_any s p _ hs hl HT.out).mono ?_; rintro e w1 ⟨rfl, hb1⟩)
    go_ret
    exact ⟨ret_i (by rw [HN.out]; omega), hb1⟩
  · obtain rfl : k = nR s := by omega
    have HE := hide (plc_end (Nat.le_refl (nR s)))
    rw [Nat.min_eq_right (show nR s ≤ nR s + 1 by omega), HE.out]
    go_enter Tryd.func23, Tryd.ntmps23
    go_wp2_with (go_at_call 40; refine (next_out s (s.size : Nat) _ hs (.inr (Int.le_refl _))).mono ?_; rintro e w' ⟨rfl, rfl⟩)
    go_ret
    exact ⟨rfl, Below.refl _ _⟩
set_option maxHeartbeats 400000 in
theorem left_any (s : ByteArray) (k : Nat) (w : World) (hs : s.size ≤ 1048576) (hk : k ≤ nR s) (hT : UTabs w) : Calls Tryd.prog 22 #[.string s, .int .i64 (plc s k : Nat)] w fun e w' => e = .returned (.int .i64 (plc s (k - 1) : Nat)) ∧ Below w.heap.size w w' := by
  have HT := hide hT
  clear hT
  cases k with
  | zero =>
    rw [Nat.zero_sub, plc_zero]
    go_enter Tryd.func22, Tryd.ntmps22
    go_wp2_with (go_at_call 39; refine (cback_out s _ _ hs (.inl (by omega))).mono ?_; rintro e w' ⟨rfl, rfl⟩)
    go_ret
    exact ⟨rfl, Below.refl _ _⟩
  | succ k =>
    have h : k < nR s := by omega
    have HN := hide (plc_next h)
    have HBP := hide (back_plc h)
    have hl := plc_lt h
    have hd := dec_in s _ hl
    have hp := plc_le s (k + 1)
    have hp0 := plc_succ_lt h
    rw [Nat.add_sub_cancel]
    obtain ⟨p, hp9⟩ : ∃ p, plc s k = p := ⟨_, rfl⟩
    obtain ⟨q, hq9⟩ : ∃ p, plc s (k + 1) = p := ⟨_, rfl⟩
    rw [hp9] at hl hd HN HBP hp0 ⊢
    rw [hq9] at HN HBP hp hp0 ⊢
    clear hp9 hq9
    have hq := HN.out
    go_enter Tryd.func22, Tryd.ntmps22
    clear hq
    go_wp2_with (go_at_call 39; refine (cback_any s q _ hs (by omega) hp HT.out).mono ?_; unfold BackPost; rw [HBP.out]; rintro e w1 ⟨rfl, hb1⟩)
    go_ret
    exact ⟨ret_i (by rw [HN.out]; omega), hb1⟩
set_option maxHeartbeats 400000 in
theorem here_any (s : ByteArray) (k : Nat) (w : World) (hs : s.size ≤ 1048576) (hk : k ≤ nR s) (hT : UTabs w) : Calls Tryd.prog 32 #[.string s, .int .i64 (plc s k : Nat)] w fun e w' => e = .returned (.int .i64 (cl s k)) ∧ Below w.heap.size w w' := by
  have HT := hide hT
  clear hT
  by_cases h : k < nR s
  · have HC := hide (show cl s k = cls ((Utf8.decode s (plc s k)).1 : Int) by unfold cl; rw [if_pos h])
    have hl := plc_lt h
    have hd := dec_in s _ hl
    obtain ⟨p, hp9⟩ : ∃ p, plc s k = p := ⟨_, rfl⟩
    rw [hp9] at hl hd HC ⊢
    clear hp9
    obtain ⟨n, hn⟩ : ∃ n, (Utf8.decode s p).2 = n := ⟨_, rfl⟩
    have HN := hide hn
    rw [hn] at hd
    have hn0 : ((n : Int) == 0) = false := beq_eq_false_iff_ne.2 (by omega)
    clear hn
    go_enter Tryd.func32, Tryd.ntmps32
    go_wp2_with (first
      | (go_at_call 40; refine (next_any s p _ hs hl HT.out).mono ?_; rw [HN.out]; rintro e w1 ⟨rfl, hb1⟩)
      | (go_at_call 11; refine (class_any _ _).mono ?_; rintro e w' ⟨rfl, rfl⟩))
    go_ret
    exact ⟨ret_i HC.out.symm, hb1⟩
  · obtain rfl : k = nR s := by omega
    have HE := hide (plc_end (Nat.le_refl (nR s)))
    rw [HE.out, cl_out (Nat.le_refl _)]
    go_enter Tryd.func32, Tryd.ntmps32
    go_wp2_with (go_at_call 40; refine (next_out s (s.size : Nat) _ hs (.inr (Int.le_refl _))).mono ?_; rintro e w' ⟨rfl, rfl⟩)
    go_ret
    exact ⟨rfl, Below.refl _ _⟩
set_option maxHeartbeats 400000 in
theorem ahead_any (s : ByteArray) (k : Nat) (w : World) (hs : s.size ≤ 1048576) (hk : k ≤ nR s) (hT : UTabs w) : Calls Tryd.prog 34 #[.string s, .int .i64 (plc s k : Nat)] w fun e w' => e = .returned (.int .i64 (clB s k)) ∧ Below w.heap.size w w' := by
  have HT := hide hT
  clear hT
  cases k with
  | zero =>
    rw [plc_zero]
    go_enter Tryd.func34, Tryd.ntmps34
    go_wp2_with (go_at_call 39; refine (cback_out s _ _ hs (.inl (by omega))).mono ?_; rintro e w' ⟨rfl, rfl⟩)
    go_ret
    exact ⟨rfl, Below.refl _ _⟩
  | succ k =>
    have h : k < nR s := by omega
    have HC := hide (show clB s (k + 1) = cls ((Utf8.decode s (plc s k)).1 : Int) by unfold clB cl; rw [if_neg (by omega), Nat.add_sub_cancel, if_pos h])
    have HBP := hide (back_plc h)
    have hl := plc_lt h
    have hd := dec_in s _ hl
    have hp := plc_le s (k + 1)
    have hp0 := plc_succ_lt h
    obtain ⟨p, hp9⟩ : ∃ p, plc s k = p := ⟨_, rfl⟩
    obtain ⟨q, hq9⟩ : ∃ p, plc s (k + 1) = p := ⟨_, rfl⟩
    rw [hp9] at hl hd HC HBP hp0
    rw [hq9] at HBP hp hp0 ⊢
    clear hp9 hq9
    obtain ⟨n, hn⟩ : ∃ n, (Utf8.decode s p).2 = n := ⟨_, rfl⟩
    have HN := hide hn
    rw [hn] at hd
    have hn0 : ((n : Int) == 0) = false := beq_eq_false_iff_ne.2 (by omega)
    clear hn
    go_enter Tryd.func34, Tryd.ntmps34
    go_wp2_with (first
      | (go_at_call 39; refine (cback_any s q _ hs (by omega) hp HT.out).mono ?_; unfold BackPost; rw [HBP.out, HN.out]; rintro e w1 ⟨rfl, hb1⟩)
      | (go_at_call 11; refine (class_any _ _).mono ?_; rintro e w' ⟨rfl, rfl⟩))
    go_ret
    exact ⟨ret_i HC.out.symm, hb1⟩
end Go.Proofs.YtkmcfcpockpadaaDoor
