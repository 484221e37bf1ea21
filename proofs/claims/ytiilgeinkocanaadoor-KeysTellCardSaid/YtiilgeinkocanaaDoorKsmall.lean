/- Contracts of the small functions of keys: one, letter, invalid, done, wait, arrow, New, none. -/
import Derived.Test.YtiilgeinkocanaaDoorKmem
import Derived.Deep.QuietTactic
import Derived.BigQuiet
namespace Go.Proofs.YtiilgeinkocanaaDoor
open Go.RowKit

theorem ret_int3 {k : IntKind} {a b : Int} (h : a = b) : Ending.returned (.int k a) = .returned (.int k b) := by rw [h]
theorem one_any (k : Int) (w : World) : Calls Tryd.prog 40 #[.int .i64 k] w fun e w' => e = .returned (.slice (some ⟨w.heap.size, 0, none⟩) 1 1) ∧ w' = w.alloc (.cells #[.int .i64 k, .int .i32 0, .string ⟨#[]⟩] 26) := by
  go_enter Tryd.func40, Tryd.ntmps40
  go_wp2
  go_ret
  exact ⟨rfl, rfl⟩
theorem letter_any (k r : Int) (w : World) : Calls Tryd.prog 49 #[.int .i64 k, .int .i32 r] w fun e w' => e = .returned (.slice (some ⟨w.heap.size, 0, none⟩) 1 1) ∧ w' = w.alloc (.cells #[.int .i64 k, .int .i32 r, .string ⟨#[]⟩] 26) := by
  go_enter Tryd.func49, Tryd.ntmps49
  go_wp2
  go_ret
  exact ⟨rfl, rfl⟩
theorem invalid_any (s : ByteArray) (w : World) : Calls Tryd.prog 41 #[.string s] w fun e w' => e = .returned (.slice (some ⟨w.heap.size, 0, none⟩) 1 1) ∧ w' = w.alloc (.cells #[.int .i64 0, .int .i32 0, .string s] 26) := by
  go_enter Tryd.func41, Tryd.ntmps41
  go_wp2
  go_ret
  exact ⟨rfl, rfl⟩
theorem done_any (D : Nat) (c : Value) (v : Value) (w : World) (h : Blk w D 46 [c]) : Calls Tryd.prog 39 #[.pointer (some ⟨D, 0, none⟩), v] w fun e w' => e = .returned v ∧ w' = w.setCell ⟨D, 0, none⟩ (.iface 9 (.string ⟨#[]⟩)) := by
  have h0 := h.cell (i := 0) rfl
  have hf := h.frozen 0
  have H := hide h
  clear h
  go_enter Tryd.func39, Tryd.ntmps39
  go_wp2
  go_ret
  exact ⟨rfl, rfl⟩
theorem wait_any (D : Nat) (c : Value) (s : ByteArray) (w : World) (h : Blk w D 46 [c]) : Calls Tryd.prog 48 #[.pointer (some ⟨D, 0, none⟩), .string s] w fun e w' => e = .returned (.slice none 0 0) ∧ w' = w.setCell ⟨D, 0, none⟩ (.iface 9 (.string s)) := by
  have h0 := h.cell (i := 0) rfl
  have hf := h.frozen 0
  have H := hide h
  clear h
  go_enter Tryd.func48, Tryd.ntmps48
  go_wp2
  go_ret
  exact ⟨rfl, rfl⟩
theorem arrow_any (x : Int) (w : World) : Calls Tryd.prog 51 #[.int .u8 x] w fun e w' => e = .returned (.int .i64 (arrowK x)) ∧ w = w' := by
  have h : arrowK x = if x = 65 then 8 else if x = 66 then 9 else if x = 67 then 11 else if x = 68 then 10 else if x = 72 then 12 else if x = 70 then 13 else 0 := rfl
  have H := hide h
  clear h
  by_cases h1 : x = 65
  · subst h1
    go_enter Tryd.func51, Tryd.ntmps51
    go_wp2
    go_ret
    exact ⟨ret_int3 rfl, rfl⟩
  by_cases h2 : x = 66
  · subst h2
    go_enter Tryd.func51, Tryd.ntmps51
    go_wp2
    go_ret
    exact ⟨ret_int3 rfl, rfl⟩
  by_cases h3 : x = 67
  · subst h3
    go_enter Tryd.func51, Tryd.ntmps51
    go_wp2
    go_ret
    exact ⟨ret_int3 rfl, rfl⟩
  by_cases h4 : x = 68
  · subst h4
    go_enter Tryd.func51, Tryd.ntmps51
    go_wp2
    go_ret
    exact ⟨ret_int3 rfl, rfl⟩
  by_cases h5 : x = 72
  · subst h5
    go_enter Tryd.func51, Tryd.ntmps51
    go_wp2
    go_ret
    exact ⟨ret_int3 rfl, rfl⟩
  by_cases h6 : x = 70
  · subst h6
    go_enter Tryd.func51, Tryd.ntmps51
    go_wp2
    go_ret
    exact ⟨ret_int3 rfl, rfl⟩
  · rw [if_neg h1, if_neg h2, if_neg h3, if_neg h4, if_neg h5, if_neg h6] at H
    have g1 : (x == 65) = false := by simpa using h1
    have g2 : (x == 66) = false := by simpa using h2
    have g3 : (x == 67) = false := by simpa using h3
    have g4 : (x == 68) = false := by simpa using h4
    have g5 : (x == 72) = false := by simpa using h5
    have g6 : (x == 70) = false := by simpa using h6
    go_enter Tryd.func51, Tryd.ntmps51
    go_wp2
    go_ret
    exact ⟨ret_int3 H.out.symm, rfl⟩
theorem new_any (w : World) : Calls Tryd.prog 13 #[] w fun e w' => e = .returned (.pointer (some ⟨w.heap.size, 0, none⟩)) ∧ w' = w.alloc (.cells #[.iface 9 (.string ⟨#[]⟩)] 46) := by
  go_enter Tryd.func13, Tryd.ntmps13
  go_wp2
  go_ret
  exact ⟨rfl, rfl⟩
theorem none_any (D : Nat) (d : TypeId) (u : Value) (w : World) (h : w.cell? ⟨D, 0, none⟩ = some (.iface d u)) : Calls Tryd.prog 23 #[.pointer (some ⟨D, 0, none⟩)] w fun e w' => e = .returned (.bool false) ∧ w = w' := by
  go_enter Tryd.func23, Tryd.ntmps23
  go_wp2
  go_ret
  exact ⟨rfl, rfl⟩
theorem none_nil (w : World) : Calls Tryd.prog 23 #[.pointer none] w fun e w' => e = .returned (.bool true) ∧ w = w' := by
  go_enter Tryd.func23, Tryd.ntmps23
  go_wp2
  go_ret
  exact ⟨rfl, rfl⟩
theorem none_zero (D : Nat) (w : World) (h : w.cell? ⟨D, 0, none⟩ = some .nilIface) : Calls Tryd.prog 23 #[.pointer (some ⟨D, 0, none⟩)] w fun e w' => e = .returned (.bool true) ∧ w = w' := by
  go_enter Tryd.func23, Tryd.ntmps23
  go_wp2
  go_ret
  exact ⟨rfl, rfl⟩
end Go.Proofs.YtiilgeinkocanaaDoor
