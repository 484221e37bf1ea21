/- Contract of places.Line. -/
import Derived.Test.YtkmcfcpockpadaaPprog
import Derived.Test.YtkmcfcpockpadaaPrefl
namespace Go.Proofs.Ytkmcfcpockpadaa
open Go.RowKit

set_option maxHeartbeats 400000 in
theorem line_any (s : ByteArray) (a : Int) (w : World) (hs : s.size ≤ 1048576) : Calls Try.prog 8 #[.string s, .int .i64 a] w fun e w' => e = .returned (lineV s a) ∧ w = w' := by
  by_cases h0 : a < 0
  · go_enter Try.func8, Try.ntmps8
    go_wp2
    go_ret3
    exact ⟨line_out (.inl h0), rfl⟩
  by_cases h1 : (s.size : Int) < a
  · go_enter Try.func8, Try.ntmps8
    go_wp2
    go_ret3
    exact ⟨line_out (.inr h1), rfl⟩
  obtain ⟨n, rfl⟩ : ∃ n : Nat, a = n := ⟨a.toNat, by omega⟩
  have hn : n ≤ s.size := by omega
  have HS := hide (show stP s (nearP s n) = stP s n by rw [nearP_of s n hn])
  have HC := hide (count_cnt s n hn)
  have hst := stP_le s n
  have hcn := cntP_le s n
  go_enter Try.func8, Try.ntmps8
  go_wp2_with (first
    | (go_at_call 14; refine (start_any s n _ hs).mono ?_; rw [HS.out]; rintro e w' ⟨rfl, rfl⟩)
    | (go_at_call 24; refine (Try.strings_Count_one (s.extract 0 n) 10 _).mono ?_; rw [HC.out]; rintro e w' ⟨rfl, rfl⟩))
  go_ret3
  exact ⟨line_in hn rfl rfl, rfl⟩

end Go.Proofs.Ytkmcfcpockpadaa
