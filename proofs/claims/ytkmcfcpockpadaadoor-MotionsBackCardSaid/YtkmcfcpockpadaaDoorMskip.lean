/- Contracts of motions.skip and motions.back at the four function values (printed by genskip.py). -/
import Derived.Test.YtkmcfcpockpadaaDoorMone
import Derived.Deep.LoopGhost
namespace Go.Proofs.YtkmcfcpockpadaaDoor
open Go.RowKit

theorem blank_any (c : Int) (w : World) : Calls Tryd.prog 33 #[.int .i64 c] w fun e w' => e = .returned (.bool (isBlank c)) ∧ w = w' := by
  go_enter Tryd.func33, Tryd.ntmps33
  go_wp2
  go_ret
  exact ⟨rfl, rfl⟩
theorem word_any (c : Int) (w : World) : Calls Tryd.prog 29 #[.int .i64 c] w fun e w' => e = .returned (.bool (isWord c)) ∧ w = w' := by
  go_enter Tryd.func29, Tryd.ntmps29
  go_wp2
  go_ret
  exact ⟨rfl, rfl⟩
theorem between_any (c : Int) (w : World) : Calls Tryd.prog 28 #[.int .i64 c] w fun e w' => e = .returned (.bool (isBetween c)) ∧ w = w' := by
  go_enter Tryd.func28, Tryd.ntmps28
  go_wp2
  go_ret
  exact ⟨rfl, rfl⟩
theorem other1_any (c a : Int) (B : Nat) (w : World) (hc : w.cell? ⟨B, 0, none⟩ = some (.int .i64 a)) : Calls Tryd.prog 46 #[.int .i64 c, .pointer (some ⟨B, 0, none⟩)] w fun e w' => e = .returned (.bool (isOther a c)) ∧ w = w' := by
  cases hb : (c == a)
  all_goals
    have HE := hide (show isOther a c = _ from by unfold isOther; rw [hb])
    go_enter Tryd.func46, Tryd.ntmps46
    go_wp2
    go_ret
    exact ⟨by rw [HE.out]; rfl, rfl⟩
theorem other_any (a : Int) (w : World) : Calls Tryd.prog 31 #[.int .i64 a] w fun e w' => e = .returned (.func (.func 46) #[] #[.pointer (some ⟨w.heap.size, 0, none⟩)]) ∧ w' = w.alloc (.cells #[.int .i64 a] 3) := by
  go_enter Tryd.func31, Tryd.ntmps31
  go_wp2
  go_ret
  exact ⟨rfl, rfl⟩

set_option maxHeartbeats 1000000 in
theorem skip_blank (s : ByteArray) (k : Nat) (w : World) (hs : s.size ≤ 1048576) (hk : k ≤ nR s) (hT : UTabs w) : Calls Tryd.prog 27 #[.string s, .int .i64 (plc s k : Nat), (.func (.func 33) #[] #[])] w fun e w' => e = .returned (.int .i64 (plc s (skK s isBlank k) : Nat)) ∧ Below w.heap.size w w' := by
  have HT := hide hT
  clear hT
  go_enter Tryd.func27, Tryd.ntmps27
  go_wp2_with fail
  go_loopg [1] (nR s - k) (fun gk t wr => ∃ j : Nat, k ≤ j ∧ j ≤ nR s ∧ t = .int .i64 (plc s j : Nat) ∧ Hid (gk = nR s - j) ∧ Hid (skK s isBlank j = skK s isBlank k) ∧ Hid (Below w.heap.size w wr))
  case atStart => exact ⟨k, Nat.le_refl _, hk, rfl, hide rfl, hide rfl, hide (Below.refl _ _)⟩
  case round =>
    obtain ⟨j, hj0, hj, rfl, HG, HE, HBw⟩ := hrel
    have HTw := hide (HT.out.below HBw.out)
    by_cases hlt : j < nR s
    · have hc := (cl_in hlt).1
      obtain ⟨c, hc9⟩ : ∃ c, cl s j = c := ⟨_, rfl⟩
      have HC := hide hc9
      rw [hc9] at hc
      clear hc9
      have HM := hide (Nat.min_eq_left (show j + 1 ≤ nR s by omega))
      go_wp2_with fail
      refine (here_any s j _ hs hj HTw.out).mono ?_; rw [HC.out]; rintro e w1 ⟨rfl, hb1⟩
      replace HTw := hide (HTw.out.below hb1)
      replace HBw := hide (HBw.out.trans (hb1.mono HBw.out.size))
      skip
      clear hb1
      go_wp2_with fail
      refine (here_any s j _ hs hj HTw.out).mono ?_; rw [HC.out]; rintro e w2 ⟨rfl, hb1⟩
      replace HTw := hide (HTw.out.below hb1)
      replace HBw := hide (HBw.out.trans (hb1.mono HBw.out.size))
      skip
      clear hb1
      cases hb : isBlank c
      · have HB := hide hb
        clear hb
        go_wp2_with (go_at_call 33; refine (blank_any _ _).mono ?_; rw [HB.out]; rintro e w' ⟨rfl, rfl⟩)
        go_ret
        exact ⟨ret_i (by rw [← HE.out, skK_stop (by rw [HC.out]; exact HB.out)]), HBw.out⟩
      · have HB := hide hb
        clear hb
        go_wp2_with (first
          | (go_at_call 33; refine (blank_any _ _).mono ?_; rw [HB.out]; rintro e w' ⟨rfl, rfl⟩)
          | (go_at_call 23; refine (right_any s j _ hs hj HTw.out).mono ?_; rw [HM.out]; rintro e w3 ⟨rfl, hb3⟩))
        go_roundg (nR s - (j + 1))
        case measure => have := HG.out; omega
        case rel => exact ⟨j + 1, by omega, by omega, rfl, hide rfl, hide (by rw [← HE.out, skK_go hlt (by rw [HC.out]; exact HB.out)]), hide (HBw.out.trans (hb3.mono HBw.out.size))⟩
    · obtain rfl : j = nR s := by omega
      have HC := hide (cl_out (s := s) (Nat.le_refl (nR s)))
      go_wp2_with (go_at_call 32; refine (here_any s (nR s) _ hs hj HTw.out).mono ?_; rw [HC.out]; rintro e w1 ⟨rfl, hb1⟩)
      go_ret
      exact ⟨ret_i (by rw [← HE.out, skK_end (Nat.le_refl _)]), HBw.out.trans (hb1.mono HBw.out.size)⟩

set_option maxHeartbeats 1000000 in
theorem back_blank (s : ByteArray) (k : Nat) (w : World) (hs : s.size ≤ 1048576) (hk : k ≤ nR s) (hT : UTabs w) : Calls Tryd.prog 30 #[.string s, .int .i64 (plc s k : Nat), (.func (.func 33) #[] #[])] w fun e w' => e = .returned (.int .i64 (plc s (bkK s isBlank k) : Nat)) ∧ Below w.heap.size w w' := by
  have HT := hide hT
  clear hT
  go_enter Tryd.func30, Tryd.ntmps30
  go_wp2_with fail
  go_loopg [1] k (fun gk t wr => ∃ j : Nat, j ≤ nR s ∧ t = .int .i64 (plc s j : Nat) ∧ Hid (gk = j) ∧ Hid (bkK s isBlank j = bkK s isBlank k) ∧ Hid (Below w.heap.size w wr))
  case atStart => exact ⟨k, hk, rfl, hide rfl, hide rfl, hide (Below.refl _ _)⟩
  case round =>
    obtain ⟨j, hj, rfl, HG, HE, HBw⟩ := hrel
    have HTw := hide (HT.out.below HBw.out)
    cases j with
    | zero =>
      have HC := hide (show clB s 0 = -1 from rfl)
      go_wp2_with (go_at_call 34; refine (ahead_any s 0 _ hs hj HTw.out).mono ?_; rw [HC.out]; rintro e w1 ⟨rfl, hb1⟩)
      go_ret
      exact ⟨ret_i (by rw [← HE.out]; rfl), HBw.out.trans (hb1.mono HBw.out.size)⟩
    | succ j =>
      have hlt : j < nR s := by omega
      have hc := (cl_in hlt).1
      obtain ⟨c, hc9⟩ : ∃ c, cl s j = c := ⟨_, rfl⟩
      have HC := hide hc9
      have HCB := hide (show clB s (j + 1) = c by unfold clB; rw [if_neg (by omega), Nat.add_sub_cancel, hc9])
      rw [hc9] at hc
      clear hc9
      go_wp2_with fail
      refine (ahead_any s (j + 1) _ hs hj HTw.out).mono ?_; rw [HCB.out]; rintro e w1 ⟨rfl, hb1⟩
      replace HTw := hide (HTw.out.below hb1)
      replace HBw := hide (HBw.out.trans (hb1.mono HBw.out.size))
      skip
      clear hb1
      go_wp2_with fail
      refine (ahead_any s (j + 1) _ hs hj HTw.out).mono ?_; rw [HCB.out]; rintro e w2 ⟨rfl, hb1⟩
      replace HTw := hide (HTw.out.below hb1)
      replace HBw := hide (HBw.out.trans (hb1.mono HBw.out.size))
      skip
      clear hb1
      cases hb : isBlank c
      · have HB := hide hb
        clear hb
        go_wp2_with (go_at_call 33; refine (blank_any _ _).mono ?_; rw [HB.out]; rintro e w' ⟨rfl, rfl⟩)
        go_ret
        exact ⟨ret_i (by rw [← HE.out, bkK_stop (by rw [HC.out]; exact HB.out)]), HBw.out⟩
      · have HB := hide hb
        clear hb
        go_wp2_with (first
          | (go_at_call 33; refine (blank_any _ _).mono ?_; rw [HB.out]; rintro e w' ⟨rfl, rfl⟩)
          | (go_at_call 22; refine (left_any s (j + 1) _ hs hj HTw.out).mono ?_; rw [Nat.add_sub_cancel]; rintro e w3 ⟨rfl, hb3⟩))
        go_roundg j
        case measure => have := HG.out; omega
        case rel => exact ⟨j, by omega, rfl, hide rfl, hide (by rw [← HE.out, bkK_go (by rw [HC.out]; exact HB.out)]), hide (HBw.out.trans (hb3.mono HBw.out.size))⟩

set_option maxHeartbeats 1000000 in
theorem skip_word (s : ByteArray) (k : Nat) (w : World) (hs : s.size ≤ 1048576) (hk : k ≤ nR s) (hT : UTabs w) : Calls Tryd.prog 27 #[.string s, .int .i64 (plc s k : Nat), (.func (.func 29) #[] #[])] w fun e w' => e = .returned (.int .i64 (plc s (skK s isWord k) : Nat)) ∧ Below w.heap.size w w' := by
  have HT := hide hT
  clear hT
  go_enter Tryd.func27, Tryd.ntmps27
  go_wp2_with fail
  go_loopg [1] (nR s - k) (fun gk t wr => ∃ j : Nat, k ≤ j ∧ j ≤ nR s ∧ t = .int .i64 (plc s j : Nat) ∧ Hid (gk = nR s - j) ∧ Hid (skK s isWord j = skK s isWord k) ∧ Hid (Below w.heap.size w wr))
  case atStart => exact ⟨k, Nat.le_refl _, hk, rfl, hide rfl, hide rfl, hide (Below.refl _ _)⟩
  case round =>
    obtain ⟨j, hj0, hj, rfl, HG, HE, HBw⟩ := hrel
    have HTw := hide (HT.out.below HBw.out)
    by_cases hlt : j < nR s
    · have hc := (cl_in hlt).1
      obtain ⟨c, hc9⟩ : ∃ c, cl s j = c := ⟨_, rfl⟩
      have HC := hide hc9
      rw [hc9] at hc
      clear hc9
      have HM := hide (Nat.min_eq_left (show j + 1 ≤ nR s by omega))
      go_wp2_with fail
      refine (here_any s j _ hs hj HTw.out).mono ?_; rw [HC.out]; rintro e w1 ⟨rfl, hb1⟩
      replace HTw := hide (HTw.out.below hb1)
      replace HBw := hide (HBw.out.trans (hb1.mono HBw.out.size))
      skip
      clear hb1
      go_wp2_with fail
      refine (here_any s j _ hs hj HTw.out).mono ?_; rw [HC.out]; rintro e w2 ⟨rfl, hb1⟩
      replace HTw := hide (HTw.out.below hb1)
      replace HBw := hide (HBw.out.trans (hb1.mono HBw.out.size))
      skip
      clear hb1
      cases hb : isWord c
      · have HB := hide hb
        clear hb
        go_wp2_with (go_at_call 29; refine (word_any _ _).mono ?_; rw [HB.out]; rintro e w' ⟨rfl, rfl⟩)
        go_ret
        exact ⟨ret_i (by rw [← HE.out, skK_stop (by rw [HC.out]; exact HB.out)]), HBw.out⟩
      · have HB := hide hb
        clear hb
        go_wp2_with (first
          | (go_at_call 29; refine (word_any _ _).mono ?_; rw [HB.out]; rintro e w' ⟨rfl, rfl⟩)
          | (go_at_call 23; refine (right_any s j _ hs hj HTw.out).mono ?_; rw [HM.out]; rintro e w3 ⟨rfl, hb3⟩))
        go_roundg (nR s - (j + 1))
        case measure => have := HG.out; omega
        case rel => exact ⟨j + 1, by omega, by omega, rfl, hide rfl, hide (by rw [← HE.out, skK_go hlt (by rw [HC.out]; exact HB.out)]), hide (HBw.out.trans (hb3.mono HBw.out.size))⟩
    · obtain rfl : j = nR s := by omega
      have HC := hide (cl_out (s := s) (Nat.le_refl (nR s)))
      go_wp2_with (go_at_call 32; refine (here_any s (nR s) _ hs hj HTw.out).mono ?_; rw [HC.out]; rintro e w1 ⟨rfl, hb1⟩)
      go_ret
      exact ⟨ret_i (by rw [← HE.out, skK_end (Nat.le_refl _)]), HBw.out.trans (hb1.mono HBw.out.size)⟩

set_option maxHeartbeats 1000000 in
theorem back_word (s : ByteArray) (k : Nat) (w : World) (hs : s.size ≤ 1048576) (hk : k ≤ nR s) (hT : UTabs w) : Calls Tryd.prog 30 #[.string s, .int .i64 (plc s k : Nat), (.func (.func 29) #[] #[])] w fun e w' => e = .returned (.int .i64 (plc s (bkK s isWord k) : Nat)) ∧ Below w.heap.size w w' := by
  have HT := hide hT
  clear hT
  go_enter Tryd.func30, Tryd.ntmps30
  go_wp2_with fail
  go_loopg [1] k (fun gk t wr => ∃ j : Nat, j ≤ nR s ∧ t = .int .i64 (plc s j : Nat) ∧ Hid (gk = j) ∧ Hid (bkK s isWord j = bkK s isWord k) ∧ Hid (Below w.heap.size w wr))
  case atStart => exact ⟨k, hk, rfl, hide rfl, hide rfl, hide (Below.refl _ _)⟩
  case round =>
    obtain ⟨j, hj, rfl, HG, HE, HBw⟩ := hrel
    have HTw := hide (HT.out.below HBw.out)
    cases j with
    | zero =>
      have HC := hide (show clB s 0 = -1 from rfl)
      go_wp2_with (go_at_call 34; refine (ahead_any s 0 _ hs hj HTw.out).mono ?_; rw [HC.out]; rintro e w1 ⟨rfl, hb1⟩)
      go_ret
      exact ⟨ret_i (by rw [← HE.out]; rfl), HBw.out.trans (hb1.mono HBw.out.size)⟩
    | succ j =>
      have hlt : j < nR s := by omega
      have hc := (cl_in hlt).1
      obtain ⟨c, hc9⟩ : ∃ c, cl s j = c := ⟨_, rfl⟩
      have HC := hide hc9
      have HCB := hide (show clB s (j + 1) = c by unfold clB; rw [if_neg (by omega), Nat.add_sub_cancel, hc9])
      rw [hc9] at hc
      clear hc9
      go_wp2_with fail
      refine (ahead_any s (j + 1) _ hs hj HTw.out).mono ?_; rw [HCB.out]; rintro e w1 ⟨rfl, hb1⟩
      replace HTw := hide (HTw.out.below hb1)
      replace HBw := hide (HBw.out.trans (hb1.mono HBw.out.size))
      skip
      clear hb1
      go_wp2_with fail
      refine (ahead_any s (j + 1) _ hs hj HTw.out).mono ?_; rw [HCB.out]; rintro e w2 ⟨rfl, hb1⟩
      replace HTw := hide (HTw.out.below hb1)
      replace HBw := hide (HBw.out.trans (hb1.mono HBw.out.size))
      skip
      clear hb1
      cases hb : isWord c
      · have HB := hide hb
        clear hb
        go_wp2_with (go_at_call 29; refine (word_any _ _).mono ?_; rw [HB.out]; rintro e w' ⟨rfl, rfl⟩)
        go_ret
        exact ⟨ret_i (by rw [← HE.out, bkK_stop (by rw [HC.out]; exact HB.out)]), HBw.out⟩
      · have HB := hide hb
        clear hb
        go_wp2_with (first
          | (go_at_call 29; refine (word_any _ _).mono ?_; rw [HB.out]; rintro e w' ⟨rfl, rfl⟩)
          | (go_at_call 22; refine (left_any s (j + 1) _ hs hj HTw.out).mono ?_; rw [Nat.add_sub_cancel]; rintro e w3 ⟨rfl, hb3⟩))
        go_roundg j
        case measure => have := HG.out; omega
        case rel => exact ⟨j, by omega, rfl, hide rfl, hide (by rw [← HE.out, bkK_go (by rw [HC.out]; exact HB.out)]), hide (HBw.out.trans (hb3.mono HBw.out.size))⟩

set_option maxHeartbeats 1000000 in
theorem skip_between (s : ByteArray) (k : Nat) (w : World) (hs : s.size ≤ 1048576) (hk : k ≤ nR s) (hT : UTabs w) : Calls Tryd.prog 27 #[.string s, .int .i64 (plc s k : Nat), (.func (.func 28) #[] #[])] w fun e w' => e = .returned (.int .i64 (plc s (skK s isBetween k) : Nat)) ∧ Below w.heap.size w w' := by
  have HT := hide hT
  clear hT
  go_enter Tryd.func27, Tryd.ntmps27
  go_wp2_with fail
  go_loopg [1] (nR s - k) (fun gk t wr => ∃ j : Nat, k ≤ j ∧ j ≤ nR s ∧ t = .int .i64 (plc s j : Nat) ∧ Hid (gk = nR s - j) ∧ Hid (skK s isBetween j = skK s isBetween k) ∧ Hid (Below w.heap.size w wr))
  case atStart => exact ⟨k, Nat.le_refl _, hk, rfl, hide rfl, hide rfl, hide (Below.refl _ _)⟩
  case round =>
    obtain ⟨j, hj0, hj, rfl, HG, HE, HBw⟩ := hrel
    have HTw := hide (HT.out.below HBw.out)
    by_cases hlt : j < nR s
    · have hc := (cl_in hlt).1
      obtain ⟨c, hc9⟩ : ∃ c, cl s j = c := ⟨_, rfl⟩
      have HC := hide hc9
      rw [hc9] at hc
      clear hc9
      have HM := hide (Nat.min_eq_left (show j + 1 ≤ nR s by omega))
      go_wp2_with fail
      refine (here_any s j _ hs hj HTw.out).mono ?_; rw [HC.out]; rintro e w1 ⟨rfl, hb1⟩
      replace HTw := hide (HTw.out.below hb1)
      replace HBw := hide (HBw.out.trans (hb1.mono HBw.out.size))
      skip
      clear hb1
      go_wp2_with fail
      refine (here_any s j _ hs hj HTw.out).mono ?_; rw [HC.out]; rintro e w2 ⟨rfl, hb1⟩
      replace HTw := hide (HTw.out.below hb1)
      replace HBw := hide (HBw.out.trans (hb1.mono HBw.out.size))
      skip
      clear hb1
      cases hb : isBetween c
      · have HB := hide hb
        clear hb
        go_wp2_with (go_at_call 28; refine (between_any _ _).mono ?_; rw [HB.out]; rintro e w' ⟨rfl, rfl⟩)
        go_ret
        exact ⟨ret_i (by rw [← HE.out, skK_stop (by rw [HC.out]; exact HB.out)]), HBw.out⟩
      · have HB := hide hb
        clear hb
        go_wp2_with (first
          | (go_at_call 28; refine (between_any _ _).mono ?_; rw [HB.out]; rintro e w' ⟨rfl, rfl⟩)
          | (go_at_call 23; refine (right_any s j _ hs hj HTw.out).mono ?_; rw [HM.out]; rintro e w3 ⟨rfl, hb3⟩))
        go_roundg (nR s - (j + 1))
        case measure => have := HG.out; omega
        case rel => exact ⟨j + 1, by omega, by omega, rfl, hide rfl, hide (by rw [← HE.out, skK_go hlt (by rw [HC.out]; exact HB.out)]), hide (HBw.out.trans (hb3.mono HBw.out.size))⟩
    · obtain rfl : j = nR s := by omega
      have HC := hide (cl_out (s := s) (Nat.le_refl (nR s)))
      go_wp2_with (go_at_call 32; refine (here_any s (nR s) _ hs hj HTw.out).mono ?_; rw [HC.out]; rintro e w1 ⟨rfl, hb1⟩)
      go_ret
      exact ⟨ret_i (by rw [← HE.out, skK_end (Nat.le_refl _)]), HBw.out.trans (hb1.mono HBw.out.size)⟩

set_option maxHeartbeats 1000000 in
theorem back_between (s : ByteArray) (k : Nat) (w : World) (hs : s.size ≤ 1048576) (hk : k ≤ nR s) (hT : UTabs w) : Calls Tryd.prog 30 #[.string s, .int .i64 (plc s k : Nat), (.func (.func 28) #[] #[])] w fun e w' => e = .returned (.int .i64 (plc s (bkK s isBetween k) : Nat)) ∧ Below w.heap.size w w' := by
  have HT := hide hT
  clear hT
  go_enter Tryd.func30, Tryd.ntmps30
  go_wp2_with fail
  go_loopg [1] k (fun gk t wr => ∃ j : Nat, j ≤ nR s ∧ t = .int .i64 (plc s j : Nat) ∧ Hid (gk = j) ∧ Hid (bkK s isBetween j = bkK s isBetween k) ∧ Hid (Below w.heap.size w wr))
  case atStart => exact ⟨k, hk, rfl, hide rfl, hide rfl, hide (Below.refl _ _)⟩
  case round =>
    obtain ⟨j, hj, rfl, HG, HE, HBw⟩ := hrel
    have HTw := hide (HT.out.below HBw.out)
    cases j with
    | zero =>
      have HC := hide (show clB s 0 = -1 from rfl)
      go_wp2_with (go_at_call 34; refine (ahead_any s 0 _ hs hj HTw.out).mono ?_; rw [HC.out]; rintro e w1 ⟨rfl, hb1⟩)
      go_ret
      exact ⟨ret_i (by rw [← HE.out]; rfl), HBw.out.trans (hb1.mono HBw.out.size)⟩
    | succ j =>
      have hlt : j < nR s := by omega
      have hc := (cl_in hlt).1
      obtain ⟨c, hc9⟩ : ∃ c, cl s j = c := ⟨_, rfl⟩
      have HC := hide hc9
      have HCB := hide (show clB s (j + 1) = c by unfold clB; rw [if_neg (by omega), Nat.add_sub_cancel, hc9])
      rw [hc9] at hc
      clear hc9
      go_wp2_with fail
      refine (ahead_any s (j + 1) _ hs hj HTw.out).mono ?_; rw [HCB.out]; rintro e w1 ⟨rfl, hb1⟩
      replace HTw := hide (HTw.out.below hb1)
      replace HBw := hide (HBw.out.trans (hb1.mono HBw.out.size))
      skip
      clear hb1
      go_wp2_with fail
      refine (ahead_any s (j + 1) _ hs hj HTw.out).mono ?_; rw [HCB.out]; rintro e w2 ⟨rfl, hb1⟩
      replace HTw := hide (HTw.out.below hb1)
      replace HBw := hide (HBw.out.trans (hb1.mono HBw.out.size))
      skip
      clear hb1
      cases hb : isBetween c
      · have HB := hide hb
        clear hb
        go_wp2_with (go_at_call 28; refine (between_any _ _).mono ?_; rw [HB.out]; rintro e w' ⟨rfl, rfl⟩)
        go_ret
        exact ⟨ret_i (by rw [← HE.out, bkK_stop (by rw [HC.out]; exact HB.out)]), HBw.out⟩
      · have HB := hide hb
        clear hb
        go_wp2_with (first
          | (go_at_call 28; refine (between_any _ _).mono ?_; rw [HB.out]; rintro e w' ⟨rfl, rfl⟩)
          | (go_at_call 22; refine (left_any s (j + 1) _ hs hj HTw.out).mono ?_; rw [Nat.add_sub_cancel]; rintro e w3 ⟨rfl, hb3⟩))
        go_roundg j
        case measure => have := HG.out; omega
        case rel => exact ⟨j, by omega, rfl, hide rfl, hide (by rw [← HE.out, bkK_go (by rw [HC.out]; exact HB.out)]), hide (HBw.out.trans (hb3.mono HBw.out.size))⟩

set_option maxHeartbeats 1000000 in
theorem skip_other (s : ByteArray) (k : Nat) (a : Int) (B : Nat) (w : World) (hs : s.size ≤ 1048576) (hk : k ≤ nR s) (hT : UTabs w) (hB : w.cell? ⟨B, 0, none⟩ = some (.int .i64 a)) : Calls Tryd.prog 27 #[.string s, .int .i64 (plc s k : Nat), (.func (.func 46) #[] #[.pointer (some ⟨B, 0, none⟩)])] w fun e w' => e = .returned (.int .i64 (plc s (skK s (isOther a) k) : Nat)) ∧ Below w.heap.size w w' := by
  have HT := hide hT
  have hBl := World.block_lt_of_cell? _ _ hB
  clear hT
  go_enter Tryd.func27, Tryd.ntmps27
  go_wp2_with fail
  go_loopg [1] (nR s - k) (fun gk t wr => ∃ j : Nat, k ≤ j ∧ j ≤ nR s ∧ t = .int .i64 (plc s j : Nat) ∧ Hid (gk = nR s - j) ∧ Hid (skK s (isOther a) j = skK s (isOther a) k) ∧ Hid (Below w.heap.size w wr))
  case atStart => exact ⟨k, Nat.le_refl _, hk, rfl, hide rfl, hide rfl, hide (Below.refl _ _)⟩
  case round =>
    obtain ⟨j, hj0, hj, rfl, HG, HE, HBw⟩ := hrel
    have HTw := hide (HT.out.below HBw.out)
    have hcB0 := (HBw.out.cell (p := ⟨B, 0, none⟩) hBl).trans hB
    by_cases hlt : j < nR s
    · have hc := (cl_in hlt).1
      obtain ⟨c, hc9⟩ : ∃ c, cl s j = c := ⟨_, rfl⟩
      have HC := hide hc9
      rw [hc9] at hc
      clear hc9
      have HM := hide (Nat.min_eq_left (show j + 1 ≤ nR s by omega))
      go_wp2_with fail
      refine (here_any s j _ hs hj HTw.out).mono ?_; rw [HC.out]; rintro e w1 ⟨rfl, hb1⟩
      replace HTw := hide (HTw.out.below hb1)
      replace HBw := hide (HBw.out.trans (hb1.mono HBw.out.size))
      have hcB1 := (hb1.cell (p := ⟨B, 0, none⟩) (World.block_lt_of_cell? _ _ hcB0)).trans hcB0; clear hcB0
      clear hb1
      go_wp2_with fail
      refine (here_any s j _ hs hj HTw.out).mono ?_; rw [HC.out]; rintro e w2 ⟨rfl, hb1⟩
      replace HTw := hide (HTw.out.below hb1)
      replace HBw := hide (HBw.out.trans (hb1.mono HBw.out.size))
      have hcB := (hb1.cell (p := ⟨B, 0, none⟩) (World.block_lt_of_cell? _ _ hcB1)).trans hcB1; clear hcB1
      clear hb1
      cases hb : (isOther a) c
      · have HB := hide hb
        clear hb
        go_wp2_with (go_at_call 46; refine (other1_any _ a B _ hcB).mono ?_; rw [HB.out]; rintro e w' ⟨rfl, rfl⟩)
        go_ret
        exact ⟨ret_i (by rw [← HE.out, skK_stop (by rw [HC.out]; exact HB.out)]), HBw.out⟩
      · have HB := hide hb
        clear hb
        go_wp2_with (first
          | (go_at_call 46; refine (other1_any _ a B _ hcB).mono ?_; rw [HB.out]; rintro e w' ⟨rfl, rfl⟩)
          | (go_at_call 23; refine (right_any s j _ hs hj HTw.out).mono ?_; rw [HM.out]; rintro e w3 ⟨rfl, hb3⟩))
        go_roundg (nR s - (j + 1))
        case measure => have := HG.out; omega
        case rel => exact ⟨j + 1, by omega, by omega, rfl, hide rfl, hide (by rw [← HE.out, skK_go hlt (by rw [HC.out]; exact HB.out)]), hide (HBw.out.trans (hb3.mono HBw.out.size))⟩
    · obtain rfl : j = nR s := by omega
      have HC := hide (cl_out (s := s) (Nat.le_refl (nR s)))
      go_wp2_with (go_at_call 32; refine (here_any s (nR s) _ hs hj HTw.out).mono ?_; rw [HC.out]; rintro e w1 ⟨rfl, hb1⟩)
      go_ret
      exact ⟨ret_i (by rw [← HE.out, skK_end (Nat.le_refl _)]), HBw.out.trans (hb1.mono HBw.out.size)⟩

set_option maxHeartbeats 1000000 in
theorem back_other (s : ByteArray) (k : Nat) (a : Int) (B : Nat) (w : World) (hs : s.size ≤ 1048576) (hk : k ≤ nR s) (hT : UTabs w) (hB : w.cell? ⟨B, 0, none⟩ = some (.int .i64 a)) : Calls Tryd.prog 30 #[.string s, .int .i64 (plc s k : Nat), (.func (.func 46) #[] #[.pointer (some ⟨B, 0, none⟩)])] w fun e w' => e = .returned (.int .i64 (plc s (bkK s (isOther a) k) : Nat)) ∧ Below w.heap.size w w' := by
  have HT := hide hT
  have hBl := World.block_lt_of_cell? _ _ hB
  clear hT
  go_enter Tryd.func30, Tryd.ntmps30
  go_wp2_with fail
  go_loopg [1] k (fun gk t wr => ∃ j : Nat, j ≤ nR s ∧ t = .int .i64 (plc s j : Nat) ∧ Hid (gk = j) ∧ Hid (bkK s (isOther a) j = bkK s (isOther a) k) ∧ Hid (Below w.heap.size w wr))
  case atStart => exact ⟨k, hk, rfl, hide rfl, hide rfl, hide (Below.refl _ _)⟩
  case round =>
    obtain ⟨j, hj, rfl, HG, HE, HBw⟩ := hrel
    have HTw := hide (HT.out.below HBw.out)
    have hcB0 := (HBw.out.cell (p := ⟨B, 0, none⟩) hBl).trans hB
    cases j with
    | zero =>
      have HC := hide (show clB s 0 = -1 from rfl)
      go_wp2_with (go_at_call 34; refine (ahead_any s 0 _ hs hj HTw.out).mono ?_; rw [HC.out]; rintro e w1 ⟨rfl, hb1⟩)
      go_ret
      exact ⟨ret_i (by rw [← HE.out]; rfl), HBw.out.trans (hb1.mono HBw.out.size)⟩
    | succ j =>
      have hlt : j < nR s := by omega
      have hc := (cl_in hlt).1
      obtain ⟨c, hc9⟩ : ∃ c, cl s j = c := ⟨_, rfl⟩
      have HC := hide hc9
      have HCB := hide (show clB s (j + 1) = c by unfold clB; rw [if_neg (by omega), Nat.add_sub_cancel, hc9])
      rw [hc9] at hc
      clear hc9
      go_wp2_with fail
      refine (ahead_any s (j + 1) _ hs hj HTw.out).mono ?_; rw [HCB.out]; rintro e w1 ⟨rfl, hb1⟩
      replace HTw := hide (HTw.out.below hb1)
      replace HBw := hide (HBw.out.trans (hb1.mono HBw.out.size))
      have hcB1 := (hb1.cell (p := ⟨B, 0, none⟩) (World.block_lt_of_cell? _ _ hcB0)).trans hcB0; clear hcB0
      clear hb1
      go_wp2_with fail
      refine (ahead_any s (j + 1) _ hs hj HTw.out).mono ?_; rw [HCB.out]; rintro e w2 ⟨rfl, hb1⟩
      replace HTw := hide (HTw.out.below hb1)
      replace HBw := hide (HBw.out.trans (hb1.mono HBw.out.size))
      have hcB := (hb1.cell (p := ⟨B, 0, none⟩) (World.block_lt_of_cell? _ _ hcB1)).trans hcB1; clear hcB1
      clear hb1
      cases hb : (isOther a) c
      · have HB := hide hb
        clear hb
        go_wp2_with (go_at_call 46; refine (other1_any _ a B _ hcB).mono ?_; rw [HB.out]; rintro e w' ⟨rfl, rfl⟩)
        go_ret
        exact ⟨ret_i (by rw [← HE.out, bkK_stop (by rw [HC.out]; exact HB.out)]), HBw.out⟩
      · have HB := hide hb
        clear hb
        go_wp2_with (first
          | (go_at_call 46; refine (other1_any _ a B _ hcB).mono ?_; rw [HB.out]; rintro e w' ⟨rfl, rfl⟩)
          | (go_at_call 22; refine (left_any s (j + 1) _ hs hj HTw.out).mono ?_; rw [Nat.add_sub_cancel]; rintro e w3 ⟨rfl, hb3⟩))
        go_roundg j
        case measure => have := HG.out; omega
        case rel => exact ⟨j, by omega, rfl, hide rfl, hide (by rw [← HE.out, bkK_go (by rw [HC.out]; exact HB.out)]), hide (HBw.out.trans (hb3.mono HBw.out.size))⟩
end Go.Proofs.YtkmcfcpockpadaaDoor
