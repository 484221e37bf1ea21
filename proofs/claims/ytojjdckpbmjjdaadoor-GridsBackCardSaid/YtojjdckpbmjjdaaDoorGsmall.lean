/- Contracts of the small functions of grids and of its reference: may, style, Blank. -/
import Derived.Test.YtojjdckpbmjjdaaDoorGmem
namespace Go.Proofs.YtojjdckpbmjjdaaDoor
open Go.RowKit

theorem ret_bG {a b : Bool} (h : a = b) : Ending.returned (.bool a) = .returned (.bool b) := by rw [h]
theorem may_t {a b : Int} : mayB a b = true ↔ 2 ≤ a ∧ a ≤ 100 ∧ 8 ≤ b ∧ b ≤ 200 := by simp [mayB]
set_option maxHeartbeats 1000000 in
theorem may_any (a b : Int) (w : World) : Calls Tryd.prog 29 #[.int .i64 a, .int .i64 b] w fun e w' => e = .returned (.bool (mayB a b)) ∧ w = w' := by
  go_enter Tryd.func29, Tryd.ntmps29
  go_wp2
  all_goals go_ret
  all_goals exact ⟨ret_bG (by rw [Bool.eq_iff_iff, may_t]; simp [Bool.and_eq_true] <;> omega), rfl⟩
set_option maxHeartbeats 1000000 in
theorem rmay_any (a b : Int) (w : World) : Calls Tryd.prog 30 #[.int .i64 a, .int .i64 b] w fun e w' => e = .returned (.bool (mayB a b)) ∧ w = w' := by
  go_enter Tryd.func30, Tryd.ntmps30
  go_wp2
  all_goals go_ret
  all_goals exact ⟨ret_bG (by rw [Bool.eq_iff_iff, may_t]; simp [Bool.and_eq_true] <;> omega), rfl⟩
theorem blank_any (w : World) : Calls Tryd.prog 31 #[] w fun e w' => e = .returned (clV blankC) ∧ Below w.heap.size w w' := by
  go_enter Tryd.func31, Tryd.ntmps31
  go_wp2
  refine bodyPost_ret (v := clV blankC) (by simp [results, Tryd.results31, go_sem, clV, blankC]) rfl ⟨rfl, (Below.refl _ _).alloc (Nat.le_refl _) _⟩
set_option maxHeartbeats 1000000 in
theorem style_any (c : Cl) (w : World) : Calls Tryd.prog 34 #[.agg #[.int .i64 c.fg, .bool c.bo, .bool c.un, .bool c.iv]] w fun e w' => e = .returned (.bool (styC c)) ∧ Below w.heap.size w w' := by
  have hs : styC c = (decide (0 ≤ c.fg) && decide (c.fg ≤ 8)) := by unfold styC; rw [Bool.eq_iff_iff]; simp
  have HS := hide hs
  clear hs
  go_enter Tryd.func34, Tryd.ntmps34
  go_wp2
  all_goals go_ret
  all_goals exact ⟨ret_bG (by rw [HS.out]; simp <;> omega), (Below.refl _ _).alloc (Nat.le_refl _) _⟩
set_option maxHeartbeats 1000000 in
theorem rstyle_any (c : Cl) (w : World) : Calls Tryd.prog 37 #[.agg #[.int .i64 c.fg, .bool c.bo, .bool c.un, .bool c.iv]] w fun e w' => e = .returned (.bool (styC c)) ∧ Below w.heap.size w w' := by
  have hs : styC c = (decide (0 ≤ c.fg) && decide (c.fg ≤ 8)) := by unfold styC; rw [Bool.eq_iff_iff]; simp
  have HS := hide hs
  clear hs
  go_enter Tryd.func37, Tryd.ntmps37
  go_wp2
  all_goals go_ret
  all_goals exact ⟨ret_bG (by rw [HS.out]; simp <;> omega), (Below.refl _ _).alloc (Nat.le_refl _) _⟩
theorem may_is (a b : Int) (x : Bool) (hx : mayB a b = x) (w : World) : Calls Tryd.prog 29 #[.int .i64 a, .int .i64 b] w fun e w' => e = .returned (.bool x) ∧ w = w' := by
  subst hx; exact may_any a b w
theorem rmay_is (a b : Int) (x : Bool) (hx : mayB a b = x) (w : World) : Calls Tryd.prog 30 #[.int .i64 a, .int .i64 b] w fun e w' => e = .returned (.bool x) ∧ w = w' := by
  subst hx; exact rmay_any a b w
end Go.Proofs.YtojjdckpbmjjdaaDoor
