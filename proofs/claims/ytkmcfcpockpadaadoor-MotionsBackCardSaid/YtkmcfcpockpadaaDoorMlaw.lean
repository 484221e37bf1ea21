/- Contracts of limnerref18.To and of limnerlaw18's place and moved. -/
import Derived.Test.YtkmcfcpockpadaaDoorMronce
import Derived.KernelRfl
namespace Go.Proofs.YtkmcfcpockpadaaDoor
open Go.RowKit

set_option maxHeartbeats 2000000 in
theorem rto_any (s : ByteArray) (a which n : Int) (w : World) (hs : s.size ≤ 1048576) (hn : -9223372036854775808 ≤ n ∧ n ≤ 9223372036854775807) : Calls Tryd.prog 8 #[.string s, .int .i64 a, .int .i64 which, .int .i64 n] w fun e w' => e = .returned (.int .i64 (plc s (toK s a which n) : Nat)) ∧ Below w.heap.size w w' := by
  obtain ⟨hn1, hn2⟩ := hn
  have hf := fixK_n s a
  obtain ⟨o, ho9⟩ : ∃ o, oftenN n = o := ⟨_, rfl⟩
  have ho := often_nat n
  rw [ho9] at ho
  obtain ⟨ho1, ho2⟩ := ho
  have HO := hide ho1
  have HE := hide (show toK s a which n = itK s which o (fixK s a) by unfold toK; rw [ho9])
  clear ho9 ho1
  go_enter Tryd.func8, Tryd.ntmps8
  go_wp2_with fail
  refine (classes_any s _ hs).mono ?_; rintro e w1 ⟨A, c, rfl, hcl, b1⟩
  have HCL := hide hcl
  have HB0 := hide b1
  clear b1 hcl
  go_wp2_with fail
  refine (rfix_any s a _ hs).mono ?_; rintro e w2 ⟨rfl, b1⟩
  replace HCL := hide (HCL.out.below b1)
  replace HB0 := hide (HB0.out.trans (b1.mono HB0.out.size))
  clear b1
  go_wp2_with fail
  refine (rrunesK s (fixK s a) _ hs hf).mono ?_; rintro e w3 ⟨rfl, b1⟩
  replace HCL := hide (HCL.out.below b1)
  replace HB0 := hide (HB0.out.trans (b1.mono HB0.out.size))
  clear b1
  go_wp2_with fail
  go_loopg [10, 11] o (fun gk t i wr => ∃ (j k : Nat), j ≤ o ∧ k ≤ nR s ∧ i = .int .i64 j ∧ t = .int .i64 k ∧ Hid (gk = o - j) ∧ Hid (itK s which (o - j) k = itK s which o (fixK s a)) ∧ Hid (Below w.heap.size w wr) ∧ Hid (ClsAt A s wr))
  case atStart => exact ⟨0, fixK s a, Nat.zero_le _, hf, rfl, rfl, hide rfl, hide rfl, HB0, HCL⟩
  case round =>
    clear HB0 HCL
    obtain ⟨j, k, hj, hk, rfl, rfl, HG, HI, HB, HCL⟩ := hrel
    by_cases hlt : j < o
    · have hj1 : (j : Int) < n := by have := HO.out; omega
      have hj2 : (j : Int) < 1000 := by omega
      have hk2 := onceK_n (which := which) hk
      have HIt := hide (show itK s which (o - j) k = itK s which (o - j - 1) (onceK s which k) by rw [show o - j = (o - j - 1) + 1 by omega]; rfl)
      by_cases he : onceK s which k = k
      · have HEK := hide he
        clear he
        go_wp2_with fail
        refine (ronce_any s k which A c _ hs hk HCL.out).mono ?_; unfold ROPost; rw [HEK.out]; rintro e w4 ⟨rfl, b1⟩
        have HB2 := hide (HB.out.trans (b1.mono HB.out.size))
        clear b1
        go_wp2_with (go_at_call 19; refine (rplaceK s k _ _ hs hk rfl).mono ?_; rintro e w5 ⟨rfl, b1⟩)
        go_ret
        exact ⟨ret_i (by rw [HE.out, ← HI.out, itK_fix HEK.out]), HB2.out.trans (b1.mono HB2.out.size)⟩
      · have hne : ((onceK s which k : Int) == (k : Nat)) = false := beq_eq_false_iff_ne.2 (by omega)
        have hne2 : ¬ onceK s which k = k := he
        clear he
        go_wp2_with fail
        refine (ronce_any s k which A c _ hs hk HCL.out).mono ?_; unfold ROPost; rintro e w4 ⟨rfl, b1⟩
        have HB2 := hide (HB.out.trans (b1.mono HB.out.size))
        have HCL2 := hide (HCL.out.below b1)
        clear b1
        go_wp2
        go_roundg (o - (j + 1))
        case measure => have := HG.out; omega
        case rel => exact ⟨j + 1, onceK s which k, by omega, hk2, by go_num, rfl, hide rfl, hide (by rw [← HI.out, HIt.out, Nat.sub_sub]), HB2, HCL2⟩
    · obtain rfl : j = o := by omega
      by_cases hjn : (j : Int) < n
      · have hj2 : ¬ (j : Int) < 1000 := by have := HO.out; omega
        go_wp2_with (go_at_call 19; refine (rplaceK s k _ _ hs hk rfl).mono ?_; rintro e w5 ⟨rfl, b1⟩)
        go_ret
        exact ⟨ret_i (by rw [HE.out, ← HI.out, Nat.sub_self]; rfl), HB.out.trans (b1.mono HB.out.size)⟩
      · go_wp2_with (go_at_call 19; refine (rplaceK s k _ _ hs hk rfl).mono ?_; rintro e w5 ⟨rfl, b1⟩)
        go_ret
        exact ⟨ret_i (by rw [HE.out, ← HI.out, Nat.sub_self]; rfl), HB.out.trans (b1.mono HB.out.size)⟩

/-- Is a place one of the first so many? -/
def isP (s : ByteArray) (p : Int) : Nat → Bool
  | 0 => p == (s.size : Int)
  | i + 1 => isP s p i || (plc s i : Int) == p
theorem isP_all {s : ByteArray} {k : Nat} (h : k ≤ nR s) : isP s (plc s k) (nR s) = true := by
  by_cases hk : k = nR s
  · have : ∀ i, isP s (plc s k) i = true := fun i => by
      induction i with
      | zero => unfold isP; rw [hk, plc_end (Nat.le_refl _)]; simp
      | succ i ih => unfold isP; rw [ih]; rfl
    exact this _
  · have : ∀ i, k < i → isP s (plc s k) i = true := fun i hi => by
      induction i with
      | zero => omega
      | succ i ih =>
        unfold isP
        by_cases h2 : k < i
        · rw [ih h2]; rfl
        · obtain rfl : k = i := by omega
          simp
    exact this _ (by omega)
set_option maxHeartbeats 1000000 in
theorem lplace_any (s : ByteArray) (k : Nat) (w : World) (hs : s.size ≤ 1048576) (hk : k ≤ nR s) : Calls Tryd.prog 13 #[.string s, .int .i64 (plc s k : Nat)] w fun e w' => e = .returned (.bool true) ∧ Below w.heap.size w w' := by
  have hlen := starts_len s
  have HE := hide (isP_all hk)
  obtain ⟨p, hp⟩ : ∃ p : Int, (plc s k : Int) = p := ⟨_, rfl⟩
  rw [hp] at HE ⊢
  clear hp
  go_enter Tryd.func13, Tryd.ntmps13
  go_wp2_with fail
  refine (cstarts_any s _ hs).mono ?_; rintro e w1 ⟨A, c, rfl, hown, hb1⟩
  have HO := hide (NatsAt.of_own hown)
  have HB := hide hb1
  obtain ⟨n, hn⟩ : ∃ n, (starts s).length = n := ⟨_, rfl⟩
  have HN := hide hn
  have HNR := hide (show nR s = n from hn)
  rw [hn] at hlen ⊢
  clear hown hb1 hn
  go_wp2
  go_loop [6, 7] (fun b i => ∃ k : Nat, k ≤ n ∧ i = .int .i64 k ∧ b = .bool (isP s p k)) (fun _ i => n - (intOf i).toNat)
  case atStart => exact ⟨0, Nat.zero_le _, rfl, rfl⟩
  case round =>
    obtain ⟨j, hj, rfl, rfl⟩ := hrel
    by_cases hlt : j < n
    · obtain ⟨g, rfl, hc1⟩ := HO.out j (by rw [HN.out]; exact hlt)
      rw [plc_of_getD (by rw [HNR.out]; exact hlt)] at hc1
      cases hb : isP s p j
      · have HBb := hide hb
        clear hb
        cases hb2 : ((plc s j : Int) == p)
        all_goals
          have HB2 := hide hb2
          go_wp2
          go_round
          case rel => exact ⟨j + 1, by omega, by go_num, by unfold isP; rw [HBb.out, HB2.out]; rfl⟩
          case measure => simp [intOf]; omega
      · have HBb := hide hb
        clear hb
        go_wp2
        go_round
        case rel => exact ⟨j + 1, by omega, by go_num, by unfold isP; rw [HBb.out]; rfl⟩
        case measure => simp [intOf]; omega
    · obtain rfl : j = n := by omega
      go_wp2
      go_ret
      exact ⟨by rw [← HNR.out, HE.out]; rfl, HB.out⟩

def mvS : ByteArray := ⟨#[97, 98, 32, 32, 99, 100, 43]⟩
def mvT : ByteArray := ⟨#[97, 98, 10, 99]⟩
theorem mv1 : plc mvS (toK mvS 0 8 1) = 4 := by decide +kernel
theorem mv2 : plc mvS (toK mvS 0 10 1) = 1 := by decide +kernel
theorem mv3 : plc mvS (toK mvS 0 6 1) = 2 := by decide +kernel
theorem mv4 : plc mvS (toK mvS 0 6 2) = 6 := by decide +kernel
theorem mv5 : plc mvS (toK mvS 7 7 1) = 4 := by decide +kernel
theorem mv6 : plc mvS (toK mvS 7 9 1) = 6 := by decide +kernel
theorem mv7 : plc mvT (toK mvT 2 5 1) = 4 := by decide +kernel
theorem mv8 : plc mvT (toK mvT 4 4 1) = 1 := by decide +kernel
theorem mvz : mvS.size ≤ 1048576 := by decide +kernel
theorem mvy : mvT.size ≤ 1048576 := by decide +kernel
set_option maxHeartbeats 1000000 in
theorem moved_any (w : World) (hT : UTabs w) : Calls Tryd.prog 6 #[] w fun e w' => e = .returned (.bool true) ∧ Below w.heap.size w w' := by
  have HT := hide hT
  obtain ⟨S, hS⟩ : ∃ S, mvS = S := ⟨_, rfl⟩
  obtain ⟨T, hTT⟩ : ∃ S, mvT = S := ⟨_, rfl⟩
  have h1 := mv1; have h2 := mv2; have h3 := mv3; have h4 := mv4; have h5 := mv5; have h6 := mv6; have h7 := mv7; have h8 := mv8; have hz := mvz; have hy := mvy
  rw [hS] at h1 h2 h3 h4 h5 h6 hz
  rw [hTT] at h7 h8 hy
  have H1 := hide h1; have H2 := hide h2; have H3 := hide h3; have H4 := hide h4; have H5 := hide h5; have H6 := hide h6; have H7 := hide h7; have H8 := hide h8
  have HS := hide (show (⟨#[97, 98, 32, 32, 99, 100, 43]⟩ : ByteArray) = S from hS)
  have HTT := hide (show (⟨#[97, 98, 10, 99]⟩ : ByteArray) = T from hTT)
  have HB := hide (Below.refl w.heap.size w)
  clear h1 h2 h3 h4 h5 h6 h7 h8 hS hTT hT
  go_enter Tryd.func6, Tryd.ntmps6
  go_wp2_with fail
  rw [HS.out]
  refine (to_any S 0 8 1 _ hz HT.out).mono ?_; rw [H1.out]; rintro e w1 ⟨rfl, b1⟩
  replace HB := hide (HB.out.trans (b1.mono HB.out.size)); replace HT := hide (HT.out.below b1); clear b1
  go_wp2_with fail
  refine (to_any S 0 10 1 _ hz HT.out).mono ?_; rw [H2.out]; rintro e w2 ⟨rfl, b1⟩
  replace HB := hide (HB.out.trans (b1.mono HB.out.size)); replace HT := hide (HT.out.below b1); clear b1
  go_wp2_with fail
  refine (to_any S 0 6 1 _ hz HT.out).mono ?_; rw [H3.out]; rintro e w3 ⟨rfl, b1⟩
  replace HB := hide (HB.out.trans (b1.mono HB.out.size)); replace HT := hide (HT.out.below b1); clear b1
  go_wp2_with fail
  refine (to_any S 0 6 2 _ hz HT.out).mono ?_; rw [H4.out]; rintro e w4 ⟨rfl, b1⟩
  replace HB := hide (HB.out.trans (b1.mono HB.out.size)); replace HT := hide (HT.out.below b1); clear b1
  go_wp2_with fail
  refine (to_any S 7 7 1 _ hz HT.out).mono ?_; rw [H5.out]; rintro e w5 ⟨rfl, b1⟩
  replace HB := hide (HB.out.trans (b1.mono HB.out.size)); replace HT := hide (HT.out.below b1); clear b1
  go_wp2_with fail
  refine (to_any S 7 9 1 _ hz HT.out).mono ?_; rw [H6.out]; rintro e w6 ⟨rfl, b1⟩
  replace HB := hide (HB.out.trans (b1.mono HB.out.size)); replace HT := hide (HT.out.below b1); clear b1
  go_wp2_with fail
  rw [HTT.out]
  refine (to_any T 2 5 1 _ hy HT.out).mono ?_; rw [H7.out]; rintro e w7 ⟨rfl, b1⟩
  replace HB := hide (HB.out.trans (b1.mono HB.out.size)); replace HT := hide (HT.out.below b1); clear b1
  go_wp2_with fail
  rw [HTT.out]
  refine (to_any T 4 4 1 _ hy HT.out).mono ?_; rw [H8.out]; rintro e w8 ⟨rfl, b1⟩
  replace HB := hide (HB.out.trans (b1.mono HB.out.size)); clear b1
  go_wp2
  go_ret
  exact ⟨rfl, HB.out⟩
end Go.Proofs.YtkmcfcpockpadaaDoor
