/- The walks of limnerlaw18.MotionsPlace and MotionsBack. -/
import Derived.Test.YtkmcfcpockpadaaDoorMlaw
import Derived.Deep.DeepCutAuto
import Derived.Deep.CutBlock
namespace Go.Proofs.YtkmcfcpockpadaaDoor
open Go.RowKit

def aheadB (m : Nat) : Bool := m == 1 || m == 3 || m == 5 || m == 6 || m == 8 || m == 10 || m == 13
def backB (m : Nat) : Bool := m == 0 || m == 2 || m == 4 || m == 7 || m == 9 || m == 12
theorem once_ahead {s : ByteArray} {m k : Nat} (h : aheadB m = true) (hk : k ≤ nR s) : k ≤ onceK s m k := by
  have h9 : m = 1 ∨ m = 3 ∨ m = 5 ∨ m = 6 ∨ m = 8 ∨ m = 10 ∨ m = 13 := by unfold aheadB at h; simp at h; omega
  rcases h9 with rfl | rfl | rfl | rfl | rfl | rfl | rfl
  · show k ≤ min (k + 1) (nR s); omega
  · exact enK_ge hk
  · exact downK_ge hk
  · exact Nat.le_trans (skK_spec s isBetween k hk).1 (skK_spec s isWord _ (skK_spec s isBetween k hk).2.1).1
  · exact Nat.le_trans (skK_spec s (isOther (cl s k)) k hk).1 (skK_spec s isBlank _ (skK_spec s (isOther (cl s k)) k hk).2.1).1
  · have := (tailK_n (s := s) (k := k)).2
    show k ≤ tailK s k
    omega
  · exact hk
theorem once_back {s : ByteArray} {m k : Nat} (h : backB m = true) (hk : k ≤ nR s) : onceK s m k ≤ k := by
  have h9 : m = 0 ∨ m = 2 ∨ m = 4 ∨ m = 7 ∨ m = 9 ∨ m = 12 := by unfold backB at h; simp at h; omega
  rcases h9 with rfl | rfl | rfl | rfl | rfl | rfl
  · show k - 1 ≤ k; omega
  · exact stK_le hk
  · exact upK_le hk
  · exact Nat.le_trans (bkK_le s isWord _) (bkK_le s isBetween k)
  · exact Nat.le_trans (bkK_le s _ _) (bkK_le s isBlank k)
  · exact Nat.zero_le _
theorem it_ahead {s : ByteArray} {m : Nat} (h : aheadB m = true) : ∀ n k, k ≤ nR s → k ≤ itK s m n k
  | 0, _, _ => Nat.le_refl _
  | n + 1, k, hk => Nat.le_trans (once_ahead h hk) (it_ahead h n _ (onceK_n hk))
theorem it_back {s : ByteArray} {m : Nat} (h : backB m = true) : ∀ n k, k ≤ nR s → itK s m n k ≤ k
  | 0, _, _ => Nat.le_refl _
  | n + 1, k, hk => Nat.le_trans (it_back h n _ (onceK_n hk)) (once_back h hk)
theorem plc_mono_le {s : ByteArray} {j k : Nat} (h : j ≤ k) (hk : k ≤ nR s) : plc s j ≤ plc s k := by
  rcases Nat.lt_or_ge j k with h1 | h1
  · exact Nat.le_of_lt (plc_mono h1 hk)
  · obtain rfl : j = k := by omega
    exact Nat.le_refl _
theorem toK_one {s : ByteArray} {m : Int} {k : Nat} (hk : k ≤ nR s) : toK s (plc s k : Nat) m 1 = onceK s m k := by
  unfold toK; rw [fixK_plc hk]; rfl
theorem often_of {n : Nat} (h : n ≤ 1000) : oftenN (n : Int) = n := by unfold oftenN; omega

set_option maxHeartbeats 4000000 in
set_option maxRecDepth 100000 in
theorem MotionsPlace_any (s : ByteArray) (x y a : Int) (w : World) (hz : s.size ≤ 9223372036854775807) (hx : 0 ≤ x ∧ x ≤ 255) (hy : 0 ≤ y ∧ y ≤ 255) (hT : UTabs w) : Calls Tryd.prog 4 #[.string s, .agg #[.int .u8 x, .int .u8 y], .int .i64 a] w fun e w' => e = .returned (.bool true) ∧ Below w.heap.size w w' := by
  have HT := hide hT
  clear hT
  have hb0 : Below w.heap.size w (w.alloc (.cells #[.int .u8 x, .int .u8 y] 28)) := (Below.refl _ _).alloc (Nat.le_refl _) _
  have HT0 := hide (HT.out.below hb0)
  have HB0 := hide hb0
  clear hb0
  by_cases hsm : 200 < s.size
  · go_enter Tryd.func4, Tryd.ntmps4
    go_wp2_with fail
    refine (moved_any _ HT0.out).mono ?_; rintro e w1 ⟨rfl, hb1⟩
    go_wp2
    go_ret
    exact ⟨rfl, HB0.out.trans (hb1.mono HB0.out.size)⟩
  have hs : s.size ≤ 1048576 := by omega
  obtain ⟨n, rfl⟩ : ∃ n : Nat, y = n := ⟨y.toNat, by omega⟩
  obtain ⟨m, hm⟩ : ∃ m : Nat, m = x.toNat % 14 := ⟨_, rfl⟩
  have hm14 : m < 14 := by omega
  have hxm : x % 14 = (m : Int) := by omega
  have hxt : x.tmod 14 = (m : Int) := by rw [Int.tmod_eq_emod_of_nonneg hx.1, hxm]
  obtain ⟨hx0, hx1⟩ := hx
  obtain ⟨hy0, hy1⟩ := hy
  clear hm
  have hf := fixK_n s a
  obtain ⟨f, hf9⟩ : ∃ f, fixK s a = f := ⟨_, rfl⟩
  have HTO := hide (show toK s a m n = itK s m n f by unfold toK; rw [hf9, often_of (by omega)])
  have HF := hide hf9
  rw [hf9] at hf
  clear hf9
  have hto := itK_n (which := m) n f hf
  obtain ⟨t, ht9⟩ : ∃ t, itK s m n f = t := ⟨_, rfl⟩
  have HTI := hide ht9
  rw [ht9] at hto HTO
  clear ht9
  go_enter Tryd.func4, Tryd.ntmps4
  go_wp2
  go_quiet (fail)
  go_wp2_with fail
  have HB1 := hide (below_drewM HB0.out nq)
  have HT1 := hide (HT0.out.below (below_drewM (Below.refl _ _) nq))
  obtain ⟨W1, hW1⟩ : ∃ W1, (w.alloc (.cells #[.int .u8 x, .int .u8 n] 28)).drewN nq = W1 := ⟨_, rfl⟩
  rw [hW1] at HB1 HT1 ⊢
  clear hW1 HB0 HT0 hxm hxt
  refine (fix_any s a _ hs).mono ?_; rw [HF.out]; rintro e w2 ⟨rfl, b1⟩
  replace HT1 := hide (HT1.out.below b1)
  replace HB1 := hide (HB1.out.trans (b1.mono HB1.out.size))
  clear b1
  go_wp2_with fail
  refine (to_any s a m n _ hs HT1.out).mono ?_; rw [HTO.out]; rintro e w3 ⟨rfl, b1⟩
  replace HT1 := hide (HT1.out.below b1)
  replace HB1 := hide (HB1.out.trans (b1.mono HB1.out.size))
  clear b1
  go_wp2_with fail
  go_loopg [11, 12] n (fun gk st i wr => ∃ (j k : Nat), j ≤ n ∧ k ≤ nR s ∧ i = .int .i64 j ∧ st = .int .i64 (plc s k : Nat) ∧ Hid (gk = n - j) ∧ Hid (itK s m (n - j) k = t) ∧ Hid (Below w.heap.size w wr) ∧ Hid (UTabs wr))
  case atStart => exact ⟨0, f, Nat.zero_le _, hf, rfl, rfl, hide rfl, HTI, HB1, HT1⟩
  case round =>
    clear HB1 HT1
    obtain ⟨j, k, hj, hk, rfl, rfl, HG, HI, HB1, HT1⟩ := hrel
    by_cases hlt : j < n
    · have HTK := hide (toK_one (s := s) (m := m) hk)
      have hk2 := onceK_n (which := m) hk
      have HI2 := hide (show itK s m (n - (j + 1)) (onceK s m k) = t by rw [← HI.out, show n - j = (n - (j + 1)) + 1 by omega]; rfl)
      go_wp2_with fail
      refine (to_any s (plc s k : Nat) m 1 _ hs HT1.out).mono ?_; rw [HTK.out]; rintro e w4 ⟨rfl, b1⟩
      replace HT1 := hide (HT1.out.below b1)
      replace HB1 := hide (HB1.out.trans (b1.mono HB1.out.size))
      clear b1
      go_wp2
      go_roundg (n - (j + 1))
      case measure => have := HG.out; omega
      case rel => exact ⟨j + 1, onceK s m k, by omega, hk2, by go_num, rfl, hide rfl, HI2, HB1, HT1⟩
    · have hjn : j = n := by omega
      have hkt : k = t := by have := HI.out; rw [hjn, Nat.sub_self] at this; exact this
      subst hkt
      have HJ := hide hjn
      clear hjn
      go_upto_region 11 with (fail)
      go_cut [13] (fun v wx => v = .bool (aheadB m) ∧ wx = wr)
      case first =>
        clear HTO HTI HI HF
        have hm0 : m = 0 ∨ m = 1 ∨ m = 2 ∨ m = 3 ∨ m = 4 ∨ m = 5 ∨ m = 6 ∨ m = 7 ∨ m = 8 ∨ m = 9 ∨ m = 10 ∨ m = 11 ∨ m = 12 ∨ m = 13 := by omega
        rcases hm0 with rfl | rfl | rfl | rfl | rfl | rfl | rfl | rfl | rfl | rfl | rfl | rfl | rfl | rfl
        all_goals
          go_wp2
          go_meet
          exact ⟨rfl, rfl⟩
      case rest =>
      obtain ⟨rfl, rfl⟩ := hcut
      go_upto_region 12 with (fail)
      go_cut [14] (fun v wx => v = .bool (backB m) ∧ wx = wc)
      case first =>
        clear HTO HTI HI HF
        have hm0 : m = 0 ∨ m = 1 ∨ m = 2 ∨ m = 3 ∨ m = 4 ∨ m = 5 ∨ m = 6 ∨ m = 7 ∨ m = 8 ∨ m = 9 ∨ m = 10 ∨ m = 11 ∨ m = 12 ∨ m = 13 := by omega
        rcases hm0 with rfl | rfl | rfl | rfl | rfl | rfl | rfl | rfl | rfl | rfl | rfl | rfl | rfl | rfl
        all_goals
          go_wp2
          go_meet
          exact ⟨rfl, rfl⟩
      case rest =>
      obtain ⟨rfl, rfl⟩ := hcut
      have HA := hide (fun h : aheadB m = true => (show (plc s f : Int) ≤ (plc s k : Nat) by have h1 := it_ahead (s := s) h n f hf; rw [HTI.out] at h1; have := plc_mono_le h1 hk; omega))
      have HBk := hide (fun h : backB m = true => (show (plc s k : Int) ≤ (plc s f : Nat) by have h1 := it_back (s := s) h n f hf; rw [HTI.out] at h1; have := plc_mono_le h1 hf; omega))
      cases hA : aheadB m
      all_goals cases hB : backB m
      all_goals
        try (have hle1 := HA.out hA)
        try (have hle2 := HBk.out hB)
        clear hA hB HA HBk
        go_wp2_with fail
        refine (lplace_any s f _ hs hf).mono ?_; rintro e w4 ⟨rfl, b1⟩
        replace HT1 := hide (HT1.out.below b1)
        replace HB1 := hide (HB1.out.trans (b1.mono HB1.out.size))
        clear b1
        go_wp2_with fail
        refine (lplace_any s k _ hs hk).mono ?_; rintro e w5 ⟨rfl, b1⟩
        replace HT1 := hide (HT1.out.below b1)
        replace HB1 := hide (HB1.out.trans (b1.mono HB1.out.size))
        clear b1
        go_wp2_with fail
        refine (moved_any _ HT1.out).mono ?_; rintro e w6 ⟨rfl, b1⟩
        replace HB1 := hide (HB1.out.trans (b1.mono HB1.out.size))
        clear b1
        go_wp2
        go_ret
        exact ⟨rfl, HB1.out⟩
end Go.Proofs.YtkmcfcpockpadaaDoor
