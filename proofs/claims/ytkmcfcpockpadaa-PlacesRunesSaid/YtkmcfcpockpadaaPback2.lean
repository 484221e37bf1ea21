/- The walks of limnerlaw04.PlacesBack and PlacesRunes. -/
import Derived.Test.YtkmcfcpockpadaaPlaw
import Derived.Deep.RegionHeld3
namespace Go.Proofs.Ytkmcfcpockpadaa
open Go.RowKit

set_option maxHeartbeats 2000000 in
theorem PlacesBack_any (s : ByteArray) (a : Int) (w : World) (hz : s.size ≤ 9223372036854775807) (ha : 0 ≤ a ∧ a ≤ 65535) : Calls Try.prog 4 #[.string s, .int .u16 a] w fun e w' => e = .returned (.bool true) ∧ Below w.heap.size w w' := by
  by_cases hsm : 1000 < s.size
  · go_enter Try.func4, Try.ntmps4
    go_wp2_with fail
    refine (placed_any w).mono ?_; rintro e w1 ⟨rfl, hb1⟩
    go_wp2
    go_ret
    exact ⟨rfl, hb1⟩
  have hs : s.size ≤ 1048576 := by omega
  obtain ⟨k, hk⟩ : ∃ k : Nat, k = a.toNat % (s.size + 1) := ⟨_, rfl⟩
  have hks : k ≤ s.size := by have := Nat.mod_lt a.toNat (show 0 < s.size + 1 by omega); omega
  have hm : a % ((s.size : Int) + 1) = (k : Int) := by
    rw [hk]
    have : (a.toNat : Int) = a := by omega
    rw [Int.natCast_emod, this]; rfl
  have hm2 : a.tmod ((s.size : Int) + 1) = (k : Int) := by rw [Int.tmod_eq_emod_of_nonneg ha.1, hm]
  obtain ⟨ha0, ha1⟩ := ha
  have hm0 : ¬ (s.size : Int) + 1 = 0 := by omega
  have HL := hide (show lineV s k = .tuple #[.int .i64 (cntP s k : Nat), .int .i64 ((k : Int) - (stP s k : Nat)), .bool true] by unfold lineV; rw [if_neg (by omega)]; rfl)
  have HN := hide (nearP_of s k hks)
  have hst := stP_le s k
  have he := enP_spec s k hks
  have he1 := he.1
  have he2 := he.2.1
  have HA := hide (atP_of s k hks)
  have HF := hide (fsP_cnt s k hks)
  have HSE := hide (show stP s (nearP s (enP s k)) = stP s k by rw [nearP_of s _ he2, st_en s k hks])
  have HES := hide (show enP s (nearP s (stP s k)) = enP s k by rw [nearP_of s _ (by omega), en_st s k hks])
  have hc := cntP_le s k
  clear he hk
  obtain ⟨c, hc9⟩ : ∃ c, cntP s k = c := ⟨_, rfl⟩
  obtain ⟨st, hs9⟩ : ∃ c, stP s k = c := ⟨_, rfl⟩
  obtain ⟨en, he9⟩ : ∃ c, enP s k = c := ⟨_, rfl⟩
  rw [hc9] at HL HA HF hc
  rw [hs9] at HL HA HF HSE HES hst
  rw [he9] at HSE HES he1 he2
  have HS9 := hide hs9
  have HE9 := hide he9
  clear hc9 hs9 he9
  go_enter Try.func4, Try.ntmps4
  go_wp2_with fail
  refine (line_any s k _ hs).mono ?_; rw [HL.out]; rintro e w' ⟨rfl, rfl⟩
  go_wp2_with fail
  refine (start_any s k _ hs).mono ?_; rw [HN.out, HS9.out]; rintro e w' ⟨rfl, rfl⟩
  go_wp2_with fail
  refine (end_any s k _ hs).mono ?_; rw [HN.out, HE9.out]; rintro e w' ⟨rfl, rfl⟩
  go_wp2_with fail
  refine (at_any s c ((k : Int) - st) _ hs (by omega) (by omega)).mono ?_; rw [HA.out]; rintro e w1 ⟨rfl, hb1⟩
  have HB := hide hb1
  clear hb1
  go_wp2_with fail
  refine (first_any s c _ hs (by omega) (by omega)).mono ?_; rw [Int.toNat_natCast, HF.out]; rintro e w2 ⟨rfl, hb1⟩
  replace HB := hide (HB.out.trans (hb1.mono HB.out.size))
  clear hb1
  go_wp2_with fail
  refine (start_any s en _ hs).mono ?_; rw [HSE.out]; rintro e w' ⟨rfl, rfl⟩
  go_wp2_with fail
  refine (end_any s st _ hs).mono ?_; rw [HES.out]; rintro e w' ⟨rfl, rfl⟩
  go_wp2_with fail
  refine (placed_any _).mono ?_; rintro e w3 ⟨rfl, hb1⟩
  replace HB := hide (HB.out.trans (hb1.mono HB.out.size))
  clear hb1
  go_wp2
  go_ret
  exact ⟨rfl, HB.out⟩

theorem below_drewP {B : Nat} {a w : World} (h : Below B a w) (n : Nat) : Below B a (w.drewN n) := ⟨h.os, h.tape, h.output, h.size, h.block⟩
theorem keep_cell {w W W1 : World} {g j : Nat} {v : Value} (h : W.cell? ⟨g, j, none⟩ = some v ∧ Below w.heap.size w W) (hb : Below W.heap.size W W1) : W1.cell? ⟨g, j, none⟩ = some v ∧ Below w.heap.size w W1 :=
  ⟨(hb.cell (p := ⟨g, j, none⟩) (World.block_lt_of_cell? _ _ h.1)).trans h.1, h.2.trans (hb.mono h.2.size)⟩
set_option maxHeartbeats 2000000 in
theorem PlacesRunes_any (s : ByteArray) (w : World) (hz : s.size ≤ 9223372036854775807) : Calls Try.prog 5 #[.string s] w fun e w' => e = .returned (.bool true) ∧ Below w.heap.size w w' := by
  by_cases hsm : 1000 < s.size
  · go_enter Try.func5, Try.ntmps5
    go_wp2_with fail
    refine (placed_any w).mono ?_; rintro e w1 ⟨rfl, hb1⟩
    go_wp2
    go_ret
    exact ⟨rfl, hb1⟩
  have hs : s.size ≤ 1048576 := by omega
  have hlen := starts_len s
  go_enter Try.func5, Try.ntmps5
  go_wp2_with fail
  refine (cstarts_any s _ hs).mono ?_; rintro e w1 ⟨A, c, rfl, hown, hb1⟩
  have HO := hide (NatsAt.of_own hown)
  have HB0 := hide hb1
  have HPN := hide (show plcI s (nR s : Nat) = s.size by rw [plcI_nat, Nat.min_self, plc_end (Nat.le_refl _)])
  have HRN := hide (show rnN s (s.size : Nat) = nR s from rnN_all (Int.le_refl _))
  have HNN := hide (show (starts s).length = nR s from rfl)
  obtain ⟨n, hn⟩ : ∃ n, (starts s).length = n := ⟨_, rfl⟩
  have HN := hide hn
  rw [hn] at hlen ⊢ HNN
  clear hown hb1 hn
  go_wp2
  go_loopw [4] (fun i wr => ∃ k : Nat, k ≤ n ∧ i = .int .i64 k ∧ Hid (Below w1.heap.size w1 wr)) (fun i _ => n - (intOf i).toNat)
  case atStart => exact ⟨0, Nat.zero_le _, rfl, hide (Below.refl _ _)⟩
  case round =>
    obtain ⟨k, hk, rfl, HB⟩ := hrel
    by_cases hlt : k < n
    · obtain ⟨g, rfl, hc1⟩ := HO.out k (by rw [HN.out]; exact hlt)
      have hkn : k < nR s := by rw [← HNN.out]; exact hlt
      rw [plc_of_getD hkn] at hc1
      have HP := hide (plcI_of (Nat.le_of_lt hkn))
      have HR := hide (rnN_plc (Nat.le_of_lt hkn))
      have hpl := plc_le s k
      obtain ⟨p, hp⟩ : ∃ p, plc s k = p := ⟨_, rfl⟩
      rw [hp] at hc1 HP HR hpl
      have hcr := ((HB.out.cell (p := ⟨g, k, none⟩) (World.block_lt_of_cell? _ _ hc1)).trans hc1)
      have HCR := hide hcr
      clear hp hc1 hkn hcr
      go_wp2_with fail
      go_region_held3 (fun w' => w'.cell? ⟨g, k, none⟩ = some (.int .i64 (p : Int)) ∧ Below w1.heap.size w1 w')
        (first | exact ⟨HCR.out, below_drewP HB.out 1⟩ | exact keep_cell (by assumption) hb2)
        (first
          | (go_at_call 20; refine (place_any s k _ hs).mono ?_; rw [HP.out]; rintro e w2 ⟨rfl, hb2⟩)
          | (go_at_call 18; refine (runes_any s p _ hs).mono ?_; rw [HR.out]; rintro e w2 ⟨rfl, hb2⟩))
      all_goals go_wp2
      all_goals go_roundw
      case rel =>
        rename_i hH
        exact ⟨k + 1, by omega, by go_num, hide hH.2⟩
      case measure => simp [intOf]; omega
    · obtain rfl : k = n := by omega
      go_wp2_with fail
      rw [HNN.out]
      refine (place_any s (nR s : Nat) _ hs).mono ?_; rw [HPN.out]; rintro e w2 ⟨rfl, hb2⟩
      replace HB := hide (HB.out.trans (hb2.mono HB.out.size))
      clear hb2
      go_wp2_with fail
      refine (runes_any s (s.size : Nat) _ hs).mono ?_; rw [HRN.out]; rintro e w3 ⟨rfl, hb2⟩
      replace HB := hide (HB.out.trans (hb2.mono HB.out.size))
      clear hb2
      go_wp2_with fail
      refine (placed_any _).mono ?_; rintro e w4 ⟨rfl, hb2⟩
      have HB9 := hide (HB0.out.trans ((HB.out.trans (hb2.mono HB.out.size)).mono HB0.out.size))
      clear hb2
      go_wp2
      go_ret
      exact ⟨rfl, HB9.out⟩
end Go.Proofs.Ytkmcfcpockpadaa
