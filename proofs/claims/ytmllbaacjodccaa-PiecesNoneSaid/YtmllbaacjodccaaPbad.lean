/- A text that is none: what its methods answer. The walk of limnerlaw03.PiecesNone. -/
import Derived.Test.YtmllbaacjodccaaPput
namespace Go.Proofs.Ytmllbaacjodccaa
open Go.RowKit

/-- The value is no text: nil, or one that was not made. -/
def BadT (W : World) (p : Value) : Prop := p = .pointer none ∨ ∃ b, p = .pointer (some ⟨b, 0, none⟩) ∧ W.cell? ⟨b, 0, none⟩ = some (.bool false)
theorem BadT.below {A W : World} {p : Value} (h : BadT A p) (hb : Below A.heap.size A W) : BadT W p := by
  rcases h with h | ⟨b, e, h⟩
  · exact .inl h
  · exact .inr ⟨b, e, (hb.cell (p := ⟨b, 0, none⟩) (World.block_lt_of_cell? _ _ h)).trans h⟩
theorem badt_none (p : Value) (w : World) (h : BadT w p) : Calls Try.prog 24 #[p] w fun e w' => e = .returned (.bool true) ∧ w = w' := by
  rcases h with rfl | ⟨b, rfl, h⟩
  · go_enter Try.func24, Try.ntmps24
    go_wp2
    go_ret
    exact ⟨rfl, rfl⟩
  · go_enter Try.func24, Try.ntmps24
    go_wp2
    go_ret
    exact ⟨rfl, rfl⟩
theorem badt_Insert (p : Value) (a : Int) (s : ByteArray) (w : World) (h : BadT w p) : Calls Try.prog 10 #[p, .int .i64 a, .string s] w fun e w' => e = .returned (.tuple #[.pointer none, .int .i64 1]) ∧ w = w' := by
  go_enter Try.func10, Try.ntmps10
  go_wp2_with fail
  refine (badt_none p _ h).mono ?_; rintro e w1 ⟨rfl, rfl⟩
  go_wp2
  go_ret2
  exact ⟨rfl, rfl⟩
theorem badt_Delete (p : Value) (a b : Int) (w : World) (h : BadT w p) : Calls Try.prog 11 #[p, .int .i64 a, .int .i64 b] w fun e w' => e = .returned (.tuple #[.pointer none, .int .i64 1]) ∧ w = w' := by
  go_enter Try.func11, Try.ntmps11
  go_wp2_with fail
  refine (badt_none p _ h).mono ?_; rintro e w1 ⟨rfl, rfl⟩
  go_wp2
  go_ret2
  exact ⟨rfl, rfl⟩
theorem badt_Len (p : Value) (w : World) (h : BadT w p) : Calls Try.prog 13 #[p] w fun e w' => e = .returned (.int .i64 0) ∧ w = w' := by
  go_enter Try.func13, Try.ntmps13
  go_wp2_with fail
  refine (badt_none p _ h).mono ?_; rintro e w1 ⟨rfl, rfl⟩
  go_wp2
  go_ret
  exact ⟨rfl, rfl⟩
theorem badt_String (p : Value) (w : World) (h : BadT w p) : Calls Try.prog 12 #[p] w fun e w' => e = .returned (.string ⟨#[]⟩) ∧ w = w' := by
  go_enter Try.func12, Try.ntmps12
  go_wp2_with fail
  refine (badt_none p _ h).mono ?_; rintro e w1 ⟨rfl, rfl⟩
  go_wp2
  go_ret
  exact ⟨rfl, rfl⟩
theorem badt_Slice (p : Value) (a b : Int) (w : World) (h : BadT w p) : Calls Try.prog 14 #[p, .int .i64 a, .int .i64 b] w fun e w' => e = .returned (.string ⟨#[]⟩) ∧ w = w' := by
  go_enter Try.func14, Try.ntmps14
  go_wp2_with fail
  refine (badt_none p _ h).mono ?_; rintro e w1 ⟨rfl, rfl⟩
  go_wp2
  go_ret
  exact ⟨rfl, rfl⟩
theorem badt_Pieces (p : Value) (w : World) (h : BadT w p) : Calls Try.prog 17 #[p] w fun e w' => e = .returned (.int .i64 0) ∧ w = w' := by
  go_enter Try.func17, Try.ntmps17
  go_wp2_with fail
  refine (badt_none p _ h).mono ?_; rintro e w1 ⟨rfl, rfl⟩
  go_wp2
  go_ret
  exact ⟨rfl, rfl⟩
theorem badt_Lines (p : Value) (w : World) (h : BadT w p) : Calls Try.prog 21 #[p] w fun e w' => e = .returned (.int .i64 0) ∧ w = w' := by
  go_enter Try.func21, Try.ntmps21
  go_wp2_with fail
  refine (badt_none p _ h).mono ?_; rintro e w1 ⟨rfl, rfl⟩
  go_wp2
  go_ret
  exact ⟨rfl, rfl⟩
theorem three_past {wr : World} {B : Nat} {u v x : Value} {o : Obj} (h : wr.cell? ⟨B, 1, none⟩ = some u ∧ wr.cell? ⟨B, 2, none⟩ = some v ∧ wr.cell? ⟨B, 3, none⟩ = some x) : (wr.alloc o).cell? ⟨B, 1, none⟩ = some u ∧ (wr.alloc o).cell? ⟨B, 2, none⟩ = some v ∧ (wr.alloc o).cell? ⟨B, 3, none⟩ = some x := by
  have hb : Below wr.heap.size wr (wr.alloc o) := (Below.refl _ _).alloc (Nat.le_refl _) _
  have hlt : B < wr.heap.size := World.block_lt_of_cell? _ _ h.1
  exact ⟨(hb.cell (p := ⟨B, 1, none⟩) hlt).trans h.1, (hb.cell (p := ⟨B, 2, none⟩) hlt).trans h.2.1, (hb.cell (p := ⟨B, 3, none⟩) hlt).trans h.2.2⟩
set_option maxHeartbeats 2000000 in
set_option maxRecDepth 100000 in
theorem PiecesNone_any (k f t : Int) (s : ByteArray) (w : World) : Calls Try.prog 7 #[.agg #[.int .u8 k, .int .i64 f, .int .i64 t, .string s]] w fun e w' => e = .returned (.bool true) ∧ Below w.heap.size w w' := by
  obtain ⟨w0, hw0⟩ : ∃ w0, w.alloc (.cells #[.int .u8 k, .int .i64 f, .int .i64 t, .string s] 45) = w0 := ⟨_, rfl⟩
  have HB := hide (show Below w.heap.size w w0 by rw [← hw0]; exact (Below.refl _ _).alloc (Nat.le_refl _) _)
  have HC := hide (show w0.cell? ⟨w.heap.size, 1, none⟩ = some (.int .i64 f) ∧ w0.cell? ⟨w.heap.size, 2, none⟩ = some (.int .i64 t) ∧ w0.cell? ⟨w.heap.size, 3, none⟩ = some (.string s) by subst hw0; exact ⟨by simp, by simp, by simp⟩)
  have HU := hide (show BadT w0 (.pointer none) from .inl rfl)
  go_enter Try.func7, Try.ntmps7
  go_wp2_with fail
  try rw [hw0]
  go_loopw [3, 4] (fun u turn wr => ∃ k : Nat, k ≤ 2 ∧ turn = .int .i64 (k : Int) ∧ Hid (BadT wr u) ∧ Hid (wr.cell? ⟨w.heap.size, 1, none⟩ = some (.int .i64 f) ∧ wr.cell? ⟨w.heap.size, 2, none⟩ = some (.int .i64 t) ∧ wr.cell? ⟨w.heap.size, 3, none⟩ = some (.string s)) ∧ Hid (Below w.heap.size w wr)) (fun _ turn _ => 2 - (intOf turn).toNat)
  case atStart => exact ⟨0, by omega, rfl, HU, HC, HB⟩
  case round =>
    obtain ⟨j, hj, rfl, HUr, HCr, HBr⟩ := hrel
    by_cases hlt : j < 2
    · obtain ⟨c1, c2, c3⟩ := HCr.out
      have hlw : w.heap.size < wr.heap.size := World.block_lt_of_cell? _ _ c1
      go_wp2_with fail
      refine (badt_Insert _ f s _ HUr.out).mono ?_; rintro e w1 ⟨rfl, rfl⟩
      go_wp2_with fail
      refine (badt_Delete _ f t _ HUr.out).mono ?_; rintro e w1 ⟨rfl, rfl⟩
      go_wp2_with fail
      refine (badt_Len _  _ HUr.out).mono ?_; rintro e w1 ⟨rfl, rfl⟩
      go_wp2_with fail
      refine (badt_String _  _ HUr.out).mono ?_; rintro e w1 ⟨rfl, rfl⟩
      go_wp2_with fail
      refine (badt_Slice _ f t _ HUr.out).mono ?_; rintro e w1 ⟨rfl, rfl⟩
      go_wp2_with fail
      refine (badt_Pieces _  _ HUr.out).mono ?_; rintro e w1 ⟨rfl, rfl⟩
      go_wp2_with fail
      refine (badt_Lines _  _ HUr.out).mono ?_; rintro e w1 ⟨rfl, rfl⟩
      go_wp2
      go_roundw
      case rel => exact ⟨j + 1, by omega, by go_num, hide (.inr ⟨_, rfl, by simp⟩), hide (three_past HCr.out), hide (HBr.out.alloc HBr.out.size _)⟩
      case measure => simp [intOf]; omega
    · obtain rfl : j = 2 := by omega
      go_wp2_with fail
      refine (put_any _).mono ?_; rintro e w5 ⟨rfl, b1⟩
      replace HBr := hide (HBr.out.trans (b1.mono HBr.out.size))
      go_wp2
      go_ret
      exact ⟨rfl, HBr.out⟩
end Go.Proofs.Ytmllbaacjodccaa
