/- Contracts of limnerref04: near, Start, End. -/
import Derived.Test.YtkmcfcpockpadaaDoorPlc
import Derived.WalkSpells
import Derived.WalkLawsBesides
namespace Go.Proofs.YtkmcfcpockpadaaDoor
open Go.RowKit

theorem ret_i {a b : Int} (h : a = b) : Ending.returned (.int .i64 a) = .returned (.int .i64 b) := by rw [h]
theorem lf_of {s : ByteArray} {k : Nat} (hk : k < s.size) : lf s k = ((s[k].toNat : Int) == 10) := by
  unfold lf; rw [get_of hk]
  generalize s[k].toNat = n
  rw [Bool.eq_iff_iff]; simp; omega
theorem ne_t {s : ByteArray} {k : Nat} (hk : k < s.size) (h : ((s[k].toNat : Int) != 10) = true) : lf s k = false := by
  rw [lf_of hk]; simpa using h
theorem ne_f {s : ByteArray} {k : Nat} (hk : k < s.size) (h : ((s[k].toNat : Int) != 10) = false) : lf s k = true := by
  rw [lf_of hk]; simpa using h
theorem eq_t {s : ByteArray} {k : Nat} (hk : k < s.size) (h : ((s[k].toNat : Int) == 10) = true) : lf s k = true := by
  rw [lf_of hk]; exact h
theorem eq_f {s : ByteArray} {k : Nat} (hk : k < s.size) (h : ((s[k].toNat : Int) == 10) = false) : lf s k = false := by
  rw [lf_of hk]; exact h
theorem lf_p {s : ByteArray} {k : Nat} (hk : k < s.size) (h : (s[k].toNat : Int) = 10) : lf s k = true := by
  rw [lf_of hk]; simpa using h
theorem lf_np {s : ByteArray} {k : Nat} (hk : k < s.size) (h : ¬ (s[k].toNat : Int) = 10) : lf s k = false := by
  rw [lf_of hk]; simpa using h
theorem rnear_any (s : ByteArray) (a : Int) (w : World) (hs : s.size ≤ 1048576) : Calls Tryd.prog 49 #[.string s, .int .i64 a] w fun e w' => e = .returned (.int .i64 (nearP s a)) ∧ w = w' := by
  by_cases h0 : a < 0
  all_goals
    go_enter Tryd.func49, Tryd.ntmps49
    go_wp2
    go_ret
    exact ⟨ret_i (by unfold nearP; omega), rfl⟩
set_option maxHeartbeats 400000 in
theorem rstart_any (s : ByteArray) (a : Int) (w : World) (hs : s.size ≤ 1048576) : Calls Tryd.prog 37 #[.string s, .int .i64 a] w fun e w' => e = .returned (.int .i64 (stP s (nearP s a))) ∧ w = w' := by
  have hn := nearP_le s a
  generalize hN : nearP s a = n at *
  have HN := hide hN
  clear hN
  go_enter Tryd.func37, Tryd.ntmps37
  go_wp2_with (go_at_call 49; refine (rnear_any s a _ hs).mono ?_; rw [HN.out]; rintro e w' ⟨rfl, rfl⟩)
  go_loop [1] (fun t => ∃ k : Nat, k ≤ n ∧ t = .int .i64 k ∧ Hid (stP s k = stP s n)) (fun t => (intOf t).toNat)
  case atStart => exact ⟨n, Nat.le_refl _, rfl, hide rfl⟩
  case round =>
    obtain ⟨k, hk, rfl, HK⟩ := hrel
    match k, hk, HK with
    | 0, hk, HK =>
      go_wp2
      go_ret
      exact ⟨ret_i (by rw [← HK.out]; rfl), rfl⟩
    | k + 1, hk, HK =>
      have hlt : k < s.size := by omega
      go_wp2
      · go_round
        case rel => exact ⟨k, by omega, rfl, hide (by rw [← HK.out, stP_succ, ne_t hlt (by assumption)]; rfl)⟩
        case measure => simp [intOf]
      · go_ret
        exact ⟨ret_i (by rw [← HK.out, stP_succ, ne_f hlt (by assumption)]; rfl), rfl⟩
set_option maxHeartbeats 400000 in
theorem rend_any (s : ByteArray) (a : Int) (w : World) (hs : s.size ≤ 1048576) : Calls Tryd.prog 38 #[.string s, .int .i64 a] w fun e w' => e = .returned (.int .i64 (enP s (nearP s a))) ∧ w = w' := by
  have hn := nearP_le s a
  generalize hN : nearP s a = n at *
  have HN := hide hN
  clear hN
  go_enter Tryd.func38, Tryd.ntmps38
  go_wp2_with (go_at_call 49; refine (rnear_any s a _ hs).mono ?_; rw [HN.out]; rintro e w' ⟨rfl, rfl⟩)
  go_loop [1] (fun t => ∃ k : Nat, k ≤ s.size ∧ t = .int .i64 k ∧ Hid (enP s k = enP s n)) (fun t => s.size - (intOf t).toNat)
  case atStart => exact ⟨n, hn, rfl, hide rfl⟩
  case round =>
    obtain ⟨k, hk, rfl, HK⟩ := hrel
    by_cases hlt : k < s.size
    · go_wp2
      · go_round
        case rel => exact ⟨k + 1, by omega, by go_num, hide (by rw [← HK.out, enP_step s k hlt (ne_t hlt (by assumption))])⟩
        case measure => simp [intOf]; omega
      · go_ret
        exact ⟨ret_i (by rw [← HK.out, enP_hit s k hlt (ne_f hlt (by assumption))]), rfl⟩
    · obtain rfl : k = s.size := by omega
      go_wp2
      go_ret
      exact ⟨ret_i (by rw [← HK.out, enP_end]), rfl⟩
end Go.Proofs.YtkmcfcpockpadaaDoor
