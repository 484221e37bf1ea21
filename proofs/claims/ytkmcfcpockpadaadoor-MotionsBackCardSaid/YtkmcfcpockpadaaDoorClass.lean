/- Contracts of motions.Class and limnerref18.Class: each answers cls, and leaves the world as it is. -/
import Derived.Test.YtkmcfcpockpadaaDoorRows
import Derived.WalkKit
import Derived.WalkSpells
import Derived.WalkLawsBesides
namespace Go.Proofs.YtkmcfcpockpadaaDoor
open Go.RowKit

def cls (r : Int) : Int :=
  if r = 32 ∨ r = 9 ∨ r = 10 ∨ r = 13 then 0
  else if (48 ≤ r ∧ r ≤ 57) ∨ (65 ≤ r ∧ r ≤ 90) ∨ (97 ≤ r ∧ r ≤ 122) ∨ r = 95 ∨ 128 ≤ r then 1 else 2

theorem ret_cls {a b : Int} (h : a = b) : Ending.returned (.int .i64 a) = .returned (.int .i64 b) := by rw [h]

set_option maxHeartbeats 400000 in
theorem class_any (r : Int) (w : World) : Calls Tryd.prog 11 #[.int .i32 r] w fun e w' => e = .returned (.int .i64 (cls r)) ∧ w = w' := by
  go_enter Tryd.func11, Tryd.ntmps11
  go_wp2
  all_goals go_ret
  all_goals exact ⟨ret_cls (by (try simp only [beq_iff_eq, beq_eq_false_iff_ne, ne_eq] at *); unfold cls; (repeat' split) <;> omega), rfl⟩

set_option maxHeartbeats 400000 in
theorem rclass_any (r : Int) (w : World) : Calls Tryd.prog 12 #[.int .i32 r] w fun e w' => e = .returned (.int .i64 (cls r)) ∧ w = w' := by
  go_enter Tryd.func12, Tryd.ntmps12
  go_wp2
  all_goals go_ret
  all_goals exact ⟨ret_cls (by (try simp only [beq_iff_eq, beq_eq_false_iff_ne, ne_eq] at *); unfold cls; (repeat' split) <;> omega), rfl⟩
end Go.Proofs.YtkmcfcpockpadaaDoor
