/- Contract of limnerref01.begin. -/
import Derived.Test.YtiilgeinkocanaaDoorPut
namespace Go.Proofs.YtiilgeinkocanaaDoor
open Go.RowKit

theorem ret_beg {k k' : IntKind} {a b a' b' : Int} (h : a = b) (h' : a' = b') : Ending.returned (.tuple #[.int k a, .int k' a']) = .returned (.tuple #[.int k b, .int k' b']) := by rw [h, h']

set_option maxHeartbeats 400000 in
theorem begin_any (c : Int) (w : World) (h0 : 0 ≤ c) (h1 : c ≤ 255) :
    Calls Tryd.prog 56 #[.int .u8 c] w fun e w' => e = .returned (.tuple #[.int .i64 (begN c), .int .i32 (begR c)]) ∧ w = w' := by
  go_enter Tryd.func56, Tryd.ntmps56
  go_wp2
  all_goals go_ret2
  all_goals exact ⟨ret_beg (by unfold begN; (repeat' split) <;> omega) (by unfold begR; (repeat' split) <;> omega), rfl⟩
end Go.Proofs.YtiilgeinkocanaaDoor
