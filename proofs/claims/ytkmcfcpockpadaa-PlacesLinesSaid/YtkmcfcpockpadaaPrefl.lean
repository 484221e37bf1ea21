/- Contracts of limnerref04: Line, First, At. -/
import Derived.Test.YtkmcfcpockpadaaPref
namespace Go.Proofs.Ytkmcfcpockpadaa
open Go.RowKit

/-- What Line answers. -/
def lineV (s : ByteArray) (a : Int) : Value := if a < 0 ∨ (s.size : Int) < a then .tuple #[.int .i64 0, .int .i64 0, .bool false] else .tuple #[.int .i64 (cntP s a.toNat : Nat), .int .i64 (a - (stP s a.toNat : Nat)), .bool true]
theorem line_out {s : ByteArray} {a : Int} (h : a < 0 ∨ (s.size : Int) < a) : Ending.returned (.tuple #[.int .i64 0, .int .i64 0, .bool false]) = .returned (lineV s a) := by unfold lineV; rw [if_pos h]
theorem line_in {s : ByteArray} {a : Nat} {x y : Int} (h : a ≤ s.size) (hx : x = (cntP s a : Nat)) (hy : y = (a : Int) - (stP s a : Nat)) : Ending.returned (.tuple #[.int .i64 x, .int .i64 y, .bool true]) = .returned (lineV s a) := by
  unfold lineV; rw [if_neg (by omega), hx, hy]; rfl
set_option maxHeartbeats 400000 in
theorem rline_any (s : ByteArray) (a : Int) (w : World) (hs : s.size ≤ 1048576) : Calls Try.prog 9 #[.string s, .int .i64 a] w fun e w' => e = .returned (lineV s a) ∧ w = w' := by
  by_cases h0 : a < 0
  · go_enter Try.func9, Try.ntmps9
    go_wp2
    go_ret3
    exact ⟨line_out (.inl h0), rfl⟩
  by_cases h1 : (s.size : Int) < a
  · go_enter Try.func9, Try.ntmps9
    go_wp2
    go_ret3
    exact ⟨line_out (.inr h1), rfl⟩
  obtain ⟨n, rfl⟩ : ∃ n : Nat, a = n := ⟨a.toNat, by omega⟩
  have hn : n ≤ s.size := by omega
  have HS := hide (show stP s (nearP s n) = stP s n by rw [nearP_of s n hn])
  have hst := stP_le s n
  go_enter Try.func9, Try.ntmps9
  go_wp2
  go_loop [7, 8] (fun c t => ∃ k : Nat, k ≤ n ∧ cntP s k ≤ k ∧ t = .int .i64 k ∧ c = .int .i64 (cntP s k : Nat)) (fun _ t => n - (intOf t).toNat)
  case atStart => exact ⟨0, Nat.zero_le _, Nat.le_refl _, rfl, rfl⟩
  case round =>
    obtain ⟨k, hk, hc, rfl, rfl⟩ := hrel
    by_cases hlt : k < n
    · have hlt2 : k < s.size := by omega
      go_wp2
      · go_round
        case rel => exact ⟨k + 1, by omega, cntP_le s _, by go_num, by rw [cntP_succ, eq_t hlt2 (by assumption)]; go_num⟩
        case measure => simp [intOf]; omega
      · go_round
        case rel => exact ⟨k + 1, by omega, cntP_le s _, by go_num, by rw [cntP_succ, eq_f hlt2 (by assumption)]; go_num⟩
        case measure => simp [intOf]; omega
    · obtain rfl : k = n := by omega
      go_wp2_with (go_at_call 15; refine (rstart_any s k _ hs).mono ?_; rw [HS.out]; rintro e w' ⟨rfl, rfl⟩)
      go_ret3
      exact ⟨line_in hn rfl rfl, rfl⟩
set_option maxHeartbeats 400000 in
theorem rfirst_any (s : ByteArray) (L : Int) (w : World) (hs : s.size ≤ 1048576) (hL : L ≤ 9223372036854775807) : Calls Try.prog 11 #[.string s, .int .i64 L] w fun e w' => e = .returned (.int .i64 (fsP s L.toNat)) ∧ w = w' := by
  by_cases h0 : L ≤ 0
  · have e0 : L.toNat = 0 := by omega
    rw [e0, fsP_zero]
    by_cases hz : 0 < s.size
    all_goals
      go_enter Try.func11, Try.ntmps11
      go_wp2
      go_loop [1, 5, 6] (fun l a t => l = .int .i64 L ∧ a = .int .i64 0 ∧ t = .int .i64 0) (fun _ _ _ => 0)
      case atStart => exact ⟨rfl, rfl, rfl⟩
      case round =>
        obtain ⟨rfl, rfl, rfl⟩ := hrel
        go_wp2
        go_ret
        exact ⟨rfl, rfl⟩
  · obtain ⟨n, rfl⟩ : ∃ n : Nat, L = n := ⟨L.toNat, by omega⟩
    rw [Int.toNat_natCast]
    go_enter Try.func11, Try.ntmps11
    go_wp2
    go_loop [1, 5, 6] (fun l a t => ∃ k at1 m : Nat, k ≤ s.size ∧ m ≤ n ∧ l = .int .i64 m ∧ a = .int .i64 at1 ∧ t = .int .i64 k ∧ Hid (fsA s n k = (at1, m))) (fun _ _ t => s.size - (intOf t).toNat)
    case atStart => exact ⟨0, 0, n, Nat.zero_le _, Nat.le_refl _, rfl, rfl, rfl, hide rfl⟩
    case round =>
      obtain ⟨k, at1, m, hk, hm, rfl, rfl, rfl, HK⟩ := hrel
      by_cases hlt : k < s.size
      · by_cases hm0 : m = 0
        · subst hm0
          go_wp2
          go_ret
          exact ⟨ret_i (by rw [fsA_done s n k (by rw [HK.out]) hk, HK.out]), rfl⟩
        · have hm1 : 0 < m := by omega
          go_wp2
          · go_round
            case rel => exact ⟨k + 1, k + 1, m - 1, by omega, by omega, by go_num, by go_num, by go_num, hide (by rw [fsA_succ, HK.out, if_neg (by exact hm0), if_pos (eq_t hlt (by assumption))])⟩
            case measure => simp [intOf]; omega
          · go_round
            case rel => exact ⟨k + 1, at1, m, by omega, by omega, rfl, rfl, by go_num, hide (by rw [fsA_succ, HK.out, if_neg (by exact hm0), if_neg (by rw [eq_f hlt (by assumption)]; simp)])⟩
            case measure => simp [intOf]; omega
      · obtain rfl : k = s.size := by omega
        go_wp2
        go_ret
        exact ⟨ret_i (by unfold fsP; rw [HK.out]), rfl⟩
theorem at_stop {s : ByteArray} {f k : Nat} {line col : Int} (hf : fsP s line.toNat = f) (h1 : f ≤ k) (h2 : enP s k = enP s f) (h3 : k = f ∨ ((k : Int) - f ≤ col)) (hs : k ≤ s.size) (h4 : col ≤ (k : Int) - f) : (k : Int) = (atP s line col : Nat) := by
  unfold atP
  rw [hf]
  have := (enP_spec s k hs).1
  omega
theorem at_end {s : ByteArray} {f k : Nat} {line col : Int} (hf : fsP s line.toNat = f) (h1 : f ≤ k) (h2 : enP s k = enP s f) (h3 : k = f ∨ ((k : Int) - f ≤ col)) (h4 : enP s k = k) : (k : Int) = (atP s line col : Nat) := by
  unfold atP
  rw [hf]
  omega
set_option maxHeartbeats 400000 in
theorem rat_any (s : ByteArray) (line col : Int) (w : World) (hs : s.size ≤ 1048576) (hL : line ≤ 9223372036854775807) : Calls Try.prog 13 #[.string s, .int .i64 line, .int .i64 col] w fun e w' => e = .returned (.int .i64 (atP s line col)) ∧ w = w' := by
  have hf := fsP_le s line.toNat
  obtain ⟨f, hF⟩ : ∃ f, fsP s line.toNat = f := ⟨_, rfl⟩
  have HF := hide hF
  rw [hF] at hf
  clear hF
  go_enter Try.func13, Try.ntmps13
  go_wp2_with (go_at_call 11; refine (rfirst_any s line _ hs hL).mono ?_; rw [HF.out]; rintro e w' ⟨rfl, rfl⟩)
  go_loop [8] (fun t => ∃ k : Nat, f ≤ k ∧ k ≤ s.size ∧ t = .int .i64 k ∧ Hid (enP s k = enP s f) ∧ Hid (k = f ∨ ((k : Int) - f ≤ col))) (fun t => s.size - (intOf t).toNat)
  case atStart => exact ⟨f, Nat.le_refl _, hf, rfl, hide rfl, hide (.inl rfl)⟩
  case round =>
    obtain ⟨k, hk0, hk, rfl, HK, HC⟩ := hrel
    by_cases hlt : k < s.size
    · by_cases hc : (k : Int) - f < col
      · go_wp2
        · go_ret
          exact ⟨ret_i (at_end HF.out hk0 HK.out HC.out (enP_hit s k hlt (lf_p hlt (by assumption)))), rfl⟩
        · go_round
          case rel => exact ⟨k + 1, by omega, by omega, by go_num, hide (by rw [← HK.out, enP_step s k hlt (lf_np hlt (by assumption))]), hide (.inr (by omega))⟩
          case measure => simp [intOf]; omega
      · go_wp2
        · go_ret
          exact ⟨ret_i (at_end HF.out hk0 HK.out HC.out (enP_hit s k hlt (lf_p hlt (by assumption)))), rfl⟩
        · go_ret
          exact ⟨ret_i (at_stop HF.out hk0 HK.out HC.out hk (by omega)), rfl⟩
    · obtain rfl : k = s.size := by omega
      go_wp2
      go_ret
      exact ⟨ret_i (at_end HF.out hk0 HK.out HC.out (enP_end s)), rfl⟩

end Go.Proofs.Ytkmcfcpockpadaa
