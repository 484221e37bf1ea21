/- Contracts of motions.Fix, To, limnerref18.Fix, classes. -/
import Derived.Test.YtkmcfcpockpadaaDoorMonce2
namespace Go.Proofs.YtkmcfcpockpadaaDoor
open Go.RowKit

theorem rn_exists (s : ByteArray) (b : Int) : ∀ n, n ≤ nR s → ∃ k, k ≤ n ∧ (∀ j, j < k → (plc s j : Int) < b) ∧ (k < n → b ≤ (plc s k : Int))
  | 0, _ => ⟨0, Nat.le_refl _, fun j h => by omega, fun h => by omega⟩
  | n + 1, h => by
    obtain ⟨k, h1, h2, h3⟩ := rn_exists s b n (by omega)
    by_cases hk : k = n
    · subst hk
      by_cases hb : (plc s k : Int) < b
      · exact ⟨k + 1, Nat.le_refl _, fun j hj => by
          by_cases e : j = k
          · subst e; exact hb
          · exact h2 j (by omega), fun h => by omega⟩
      · exact ⟨k, by omega, h2, fun _ => by omega⟩
    · exact ⟨k, by omega, h2, fun _ => h3 (by omega)⟩
theorem rnN_spec (s : ByteArray) (b : Int) : (∀ j, j < rnN s b → (plc s j : Int) < b) ∧ (rnN s b < nR s → b ≤ (plc s (rnN s b) : Int)) := by
  obtain ⟨k, h1, h2, h3⟩ := rn_exists s b (nR s) (Nat.le_refl _)
  rw [rnN_eq h1 h2 h3]
  exact ⟨h2, h3⟩
theorem rnN_iff {s : ByteArray} {b : Int} {j : Nat} (hj : j < nR s) : (plc s j : Int) < b ↔ j < rnN s b := by
  obtain ⟨h1, h2⟩ := rnN_spec s b
  constructor
  · intro h
    rcases Nat.lt_or_ge j (rnN s b) with h3 | h3
    · exact h3
    · have h4 := h2 (by omega)
      rcases Nat.lt_or_ge (rnN s b) j with h5 | h5
      · have := plc_mono h5 (Nat.le_of_lt hj); omega
      · obtain e : rnN s b = j := by omega
        rw [e] at h4; omega
  · exact h1 j
/-- The last of the first so many places that is not behind one. -/
def fxL (s : ByteArray) (a : Int) : Nat → Nat
  | 0 => 0
  | i + 1 => if (plc s i : Int) ≤ a then plc s i else fxL s a i
theorem fxL_t {s : ByteArray} {a : Int} {i : Nat} (h : (plc s i : Int) ≤ a) : fxL s a (i + 1) = plc s i := if_pos h
theorem fxL_f {s : ByteArray} {a : Int} {i : Nat} (h : ¬ (plc s i : Int) ≤ a) : fxL s a (i + 1) = fxL s a i := if_neg h
theorem fxL_le (s : ByteArray) (a : Int) : ∀ i, fxL s a i ≤ s.size
  | 0 => Nat.zero_le _
  | i + 1 => by unfold fxL; split; exact plc_le s i; exact fxL_le s a i
theorem fxL_eq {s : ByteArray} {a : Int} : ∀ i, i ≤ nR s → fxL s a i = plc s (min i (rnN s (a + 1)) - 1)
  | 0, _ => by rw [Nat.zero_min, plc_zero]; rfl
  | i + 1, h => by
    have h1 := rnN_iff (s := s) (b := a + 1) (j := i) (by omega)
    unfold fxL
    by_cases h2 : i < rnN s (a + 1)
    · have := h1.2 h2
      rw [if_pos (by omega), Nat.min_eq_left (by omega), Nat.add_sub_cancel]
    · rw [if_neg (by omega), fxL_eq i (by omega), Nat.min_eq_right (by omega), Nat.min_eq_right (by omega)]
theorem fxL_fix {s : ByteArray} {a : Int} (h : ¬ (s.size : Int) ≤ a) : fxL s a (nR s) = plc s (fixK s a) := by
  rw [fxL_eq _ (Nat.le_refl _), Nat.min_eq_right (rnN_le _ _)]
  unfold fixK; rw [if_neg h]
theorem fix_size {s : ByteArray} {a : Int} (h : (s.size : Int) ≤ a) : plc s (fixK s a) = s.size := by unfold fixK; rw [if_pos h, plc_end (Nat.le_refl _)]
theorem fxL_fix1 (s : ByteArray) (a : Int) : fxL s a (nR s + 1) = plc s (fixK s a) := by
  unfold fxL
  rw [plc_end (Nat.le_refl _)]
  by_cases h : (s.size : Int) ≤ a
  · rw [if_pos h, fix_size h]
  · rw [if_neg h, fxL_fix h]

set_option maxHeartbeats 1000000 in
theorem fix_any (s : ByteArray) (a : Int) (w : World) (hs : s.size ≤ 1048576) : Calls Tryd.prog 9 #[.string s, .int .i64 a] w fun e w' => e = .returned (.int .i64 (plc s (fixK s a) : Nat)) ∧ Below w.heap.size w w' := by
  by_cases h0 : (s.size : Int) ≤ a
  · have HE := hide (fix_size h0)
    go_enter Tryd.func9, Tryd.ntmps9
    go_wp2
    go_ret
    exact ⟨ret_i (by rw [HE.out]), Below.refl _ _⟩
  have hlen := starts_len s
  have HE := hide (fxL_fix h0)
  go_enter Tryd.func9, Tryd.ntmps9
  go_wp2_with fail
  refine (cstarts_any s _ hs).mono ?_; rintro e w1 ⟨A, c, rfl, hown, hb1⟩
  have HO := hide (NatsAt.of_own hown)
  have HB := hide hb1
  obtain ⟨n, hn⟩ : ∃ n, (starts s).length = n := ⟨_, rfl⟩
  have HN := hide hn
  have HNR := hide (show nR s = n from hn)
  rw [hn] at hlen ⊢
  clear hown hb1 hn
  go_wp2
  go_loop [5, 17] (fun o i => ∃ (k x : Nat), k ≤ n ∧ i = .int .i64 k ∧ o = .int .i64 x ∧ Hid (x = fxL s a k)) (fun _ i => n - (intOf i).toNat)
  case atStart => exact ⟨0, 0, Nat.zero_le _, rfl, rfl, hide rfl⟩
  case round =>
    obtain ⟨k, x, hk, rfl, rfl, HX⟩ := hrel
    by_cases hlt : k < n
    · obtain ⟨g, rfl, hc1⟩ := HO.out k (by rw [HN.out]; exact hlt)
      rw [plc_of_getD (by rw [HNR.out]; exact hlt)] at hc1
      by_cases hpa : (plc s k : Int) ≤ a
      · go_wp2
        go_round
        case rel => exact ⟨k + 1, _, by omega, by go_num, rfl, hide (fxL_t hpa).symm⟩
        case measure => simp [intOf]; omega
      · go_wp2
        go_round
        case rel => exact ⟨k + 1, x, by omega, by go_num, rfl, hide (by rw [fxL_f hpa, HX.out])⟩
        case measure => simp [intOf]; omega
    · obtain rfl : k = n := by omega
      go_wp2
      go_ret
      exact ⟨ret_i (by rw [HX.out, ← HNR.out, HE.out]), HB.out⟩

theorem cellF {s : ByteArray} {w2 : World} {B : Nat} {t : TypeId} {A2 : Option Addr} {c2 k : Nat} (h : w2.ownsRow B t 1 (.slice A2 ((starts s).length + 1) c2) ((starts s).length + 1) (nats (starts s) ++ [Value.int .i64 (s.size : Nat)])) (hk : k ≤ nR s) :
    ∃ g, A2 = some ⟨g, 0, none⟩ ∧ w2.cell? ⟨g, k, none⟩ = some (.int .i64 (plc s k : Nat)) := by
  have e : (starts s).length + 1 = (starts s ++ [s.size]).length := by simp
  rw [← nats_snoc, e] at h
  obtain ⟨g, e2, hc⟩ := NatsAt.of_own h k (by unfold nR at hk; simp; omega)
  refine ⟨g, e2, ?_⟩
  rw [hc]
  unfold nR at hk
  congr 3
  unfold plc
  by_cases h9 : k < (starts s).length
  · rw [List.getElem?_append_left h9, List.getElem?_eq_getElem h9]; rfl
  · rw [List.getElem?_append_right (by omega), show k - (starts s).length = 0 by omega, List.getElem?_eq_none (l := starts s) (by omega)]; rfl
set_option maxHeartbeats 1000000 in
theorem rfix_any (s : ByteArray) (a : Int) (w : World) (hs : s.size ≤ 1048576) : Calls Tryd.prog 10 #[.string s, .int .i64 a] w fun e w' => e = .returned (.int .i64 (plc s (fixK s a) : Nat)) ∧ Below w.heap.size w w' := by
  obtain ⟨i0, hi, hz0, hz1, hz2⟩ := info_parts info_int
  have hlen := starts_len s
  have HE := hide (fxL_fix1 s a)
  go_enter Tryd.func10, Tryd.ntmps10
  go_wp2_with fail
  refine (starts_any s _ hs).mono ?_; rintro e w1 ⟨A, c, rfl, hown, hb1⟩
  have hbs := hb1.size
  have HB := hide hb1
  clear hb1
  go_wp2_with (at_builtin; refine wpList_append_own _ rfl _ _ 33 rfl w.heap.size 3 i0 (.int .i64 0) 1 8 Tryd.underlying33 hi hz0 hz1 hz2 rfl (by decide) _ _ _ rfl (hown.alloc _) ⟨w1.heap.size, 0, none⟩ 1 1 [.int .i64 s.size] rfl rfl (cell_one_new _ _ _) (by simp [Value.oneCell']) (by unfold maxLen; omega) (by omega) (by simp; omega) ?_; intro v' w2 hown1 hgrow1 _; have HBW := hide ((HB.out.alloc hbs _).grown hgrow1 (by simp; omega) (fun k e => (hown.lt k e).1)); obtain ⟨A2, c2, rfl⟩ := own_form hown1; have HC := hide (fun k hk => cellF (k := k) hown1 hk); clear hown hown1 hgrow1)
  have HNR := hide (show nR s = (starts s).length from rfl)
  obtain ⟨n, hn⟩ : ∃ n, (starts s).length = n := ⟨_, rfl⟩
  rw [hn] at hlen HNR ⊢
  clear hn
  go_loop [6, 7] (fun o i => ∃ (k x : Nat), k ≤ n + 1 ∧ i = .int .i64 k ∧ o = .int .i64 x ∧ Hid (x = fxL s a k)) (fun _ i => n + 1 - (intOf i).toNat)
  case atStart => exact ⟨0, 0, Nat.zero_le _, rfl, rfl, hide rfl⟩
  case round =>
    obtain ⟨k, x, hk, rfl, rfl, HX⟩ := hrel
    by_cases hlt : k < n + 1
    · obtain ⟨g, rfl, hc1⟩ := HC.out k (by rw [HNR.out]; omega)
      by_cases hpa : (plc s k : Int) ≤ a
      · go_wp2
        go_round
        case rel => exact ⟨k + 1, _, by omega, by go_num, rfl, hide (fxL_t hpa).symm⟩
        case measure => simp [intOf]; omega
      · go_wp2
        go_round
        case rel => exact ⟨k + 1, x, by omega, by go_num, rfl, hide (by rw [fxL_f hpa, HX.out])⟩
        case measure => simp [intOf]; omega
    · obtain rfl : k = n + 1 := by omega
      go_wp2
      go_ret
      exact ⟨ret_i (by rw [HX.out, ← HNR.out, HE.out]), HBW.out⟩

theorem often_nat (n : Int) : ((oftenN n : Nat) : Int) = min (max n 0) 1000 ∧ oftenN n ≤ 1000 := by unfold oftenN; omega
set_option maxHeartbeats 1000000 in
theorem to_any (s : ByteArray) (a which n : Int) (w : World) (hs : s.size ≤ 1048576) (hT : UTabs w) : Calls Tryd.prog 7 #[.string s, .int .i64 a, .int .i64 which, .int .i64 n] w fun e w' => e = .returned (.int .i64 (plc s (toK s a which n) : Nat)) ∧ Below w.heap.size w w' := by
  have HT := hide hT
  clear hT
  have hf := fixK_n s a
  obtain ⟨o, ho9⟩ : ∃ o, oftenN n = o := ⟨_, rfl⟩
  have ho := often_nat n
  rw [ho9] at ho
  obtain ⟨ho1, ho2⟩ := ho
  have HE := hide (show toK s a which n = itK s which o (fixK s a) by unfold toK; rw [ho9])
  clear ho9
  have ho1' := ho1.symm
  clear ho1
  go_enter Tryd.func7, Tryd.ntmps7
  go_wp2_with fail
  refine (fix_any s a _ hs).mono ?_; rintro e w1 ⟨rfl, b1⟩
  have HB0 := hide b1
  clear b1
  go_wp2_with fail
  go_loopg [1, 16] o (fun gk t i wr => ∃ (j k : Nat), j ≤ o ∧ k ≤ nR s ∧ i = .int .i64 j ∧ t = .int .i64 (plc s k : Nat) ∧ Hid (gk = o - j) ∧ Hid (itK s which (o - j) k = itK s which o (fixK s a)) ∧ Hid (Below w.heap.size w wr))
  case atStart => exact ⟨0, fixK s a, Nat.zero_le _, hf, rfl, rfl, hide rfl, hide rfl, HB0⟩
  case round =>
    obtain ⟨j, k, hj, hk, rfl, rfl, HG, HI, HB⟩ := hrel
    by_cases hlt : j < o
    · have hk2 := onceK_n (which := which) hk
      have HIt := hide (show itK s which (o - j) k = itK s which (o - j - 1) (onceK s which k) by rw [show o - j = (o - j - 1) + 1 by omega]; rfl)
      by_cases he : onceK s which k = k
      · have HEK := hide he
        clear he
        go_wp2_with fail
        refine (once_any s k which _ hs hk (HT.out.below HB.out)).mono ?_; unfold OncePost; rw [HEK.out]; rintro e w2 ⟨rfl, b1⟩
        have HB2 := hide (HB.out.trans (b1.mono HB.out.size))
        clear b1
        go_wp2
        go_ret
        exact ⟨ret_i (by rw [HE.out, ← HI.out, itK_fix HEK.out]), HB2.out⟩
      · have hne : ((plc s (onceK s which k) : Int) == (plc s k : Nat)) = false := by
          refine beq_eq_false_iff_ne.2 fun e => he (plc_inj hk2 hk (by omega))
        clear he
        go_wp2_with fail
        refine (once_any s k which _ hs hk (HT.out.below HB.out)).mono ?_; unfold OncePost; rintro e w2 ⟨rfl, b1⟩
        have HB2 := hide (HB.out.trans (b1.mono HB.out.size))
        clear b1
        go_wp2
        go_roundg (o - (j + 1))
        case measure => have := HG.out; omega
        case rel => exact ⟨j + 1, onceK s which k, by omega, hk2, by go_num, rfl, hide rfl, hide (by rw [← HI.out, HIt.out, Nat.sub_sub]), HB2⟩
    · obtain rfl : j = o := by omega
      go_wp2
      go_ret
      exact ⟨ret_i (by rw [HE.out, ← HI.out, Nat.sub_self]; rfl), HB.out⟩
end Go.Proofs.YtkmcfcpockpadaaDoor
