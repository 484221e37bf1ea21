/- The walk of limnerlaw18.MotionsTell. -/
import Derived.Test.YtkmcfcpockpadaaDoorMlaw
import Derived.Deep.RegionHeld3
namespace Go.Proofs.YtkmcfcpockpadaaDoor
open Go.RowKit

theorem keep3 {w W W1 : World} {B : Nat} {x y z : Value} (h : W.cell? ⟨B, 0, none⟩ = some x ∧ W.cell? ⟨B, 1, none⟩ = some y ∧ W.cell? ⟨B, 2, none⟩ = some z ∧ Hid (UTabs W) ∧ Hid (Below w.heap.size w W)) (hb : Below W.heap.size W W1) :
    W1.cell? ⟨B, 0, none⟩ = some x ∧ W1.cell? ⟨B, 1, none⟩ = some y ∧ W1.cell? ⟨B, 2, none⟩ = some z ∧ Hid (UTabs W1) ∧ Hid (Below w.heap.size w W1) := by
  obtain ⟨h1, h2, h3, h4, h5⟩ := h
  have hl := World.block_lt_of_cell? _ _ h1
  exact ⟨(hb.cell (p := ⟨B, 0, none⟩) hl).trans h1, (hb.cell (p := ⟨B, 1, none⟩) hl).trans h2, (hb.cell (p := ⟨B, 2, none⟩) hl).trans h3, hide (h4.out.below hb), hide (h5.out.trans (hb.mono h5.out.size))⟩
theorem keep3d {w W : World} {B : Nat} {x y z : Value} (h : W.cell? ⟨B, 0, none⟩ = some x ∧ W.cell? ⟨B, 1, none⟩ = some y ∧ W.cell? ⟨B, 2, none⟩ = some z ∧ Hid (UTabs W) ∧ Hid (Below w.heap.size w W)) :
    W.drew.cell? ⟨B, 0, none⟩ = some x ∧ W.drew.cell? ⟨B, 1, none⟩ = some y ∧ W.drew.cell? ⟨B, 2, none⟩ = some z ∧ Hid (UTabs W.drew) ∧ Hid (Below w.heap.size w W.drew) := keep3 h (below_drewM (Below.refl _ _) 1)
def Held3 (w : World) (B : Nat) (x y z : Value) (W : World) : Prop := W.cell? ⟨B, 0, none⟩ = some x ∧ W.cell? ⟨B, 1, none⟩ = some y ∧ W.cell? ⟨B, 2, none⟩ = some z ∧ Hid (UTabs W) ∧ Hid (Below w.heap.size w W)
set_option maxHeartbeats 4000000 in
set_option maxRecDepth 100000 in
theorem MotionsTell_any (s : ByteArray) (a b c r : Int) (w : World) (hz : s.size ≤ 9223372036854775807) (hb : -9223372036854775808 ≤ b ∧ b ≤ 9223372036854775807) (hT : UTabs w) : Calls Tryd.prog 3 #[.string s, .agg #[.int .i64 a, .int .i64 b, .int .i64 c], .int .i32 r] w fun e w' => e = .returned (.bool true) ∧ Below w.heap.size w w' := by
  have HT := hide hT
  have HBB := hide hb
  clear hT hb
  by_cases hsm : 300 < s.size
  · go_enter Tryd.func3, Tryd.ntmps3
    go_wp2_with fail
    have hb0 : Below w.heap.size w (w.alloc (.cells #[.int .i64 a, .int .i64 b, .int .i64 c] 22)) := (Below.refl _ _).alloc (Nat.le_refl _) _
    refine (moved_any _ (HT.out.below hb0)).mono ?_; rintro e w1 ⟨rfl, hb1⟩
    go_wp2
    go_ret
    exact ⟨rfl, hb0.trans (hb1.mono hb0.size)⟩
  have hs : s.size ≤ 1048576 := by omega
  go_enter Tryd.func3, Tryd.ntmps3
  go_wp2_with fail
  have HK := hide (show Held3 w w.heap.size (.int .i64 a) (.int .i64 b) (.int .i64 c) (w.alloc (.cells #[.int .i64 a, .int .i64 b, .int .i64 c] 22)) from ⟨by simp, by simp, by simp, hide (HT.out.below ((Below.refl _ _).alloc (Nat.le_refl _) _)), hide ((Below.refl _ _).alloc (Nat.le_refl _) _)⟩)
  obtain ⟨B, hB⟩ : ∃ B, w.heap.size = B := ⟨_, rfl⟩
  obtain ⟨W0, hW0⟩ : ∃ W0, w.alloc (.cells #[.int .i64 a, .int .i64 b, .int .i64 c] 22) = W0 := ⟨_, rfl⟩
  rw [hW0] at HK ⊢
  rw [hB] at HK ⊢
  have HBE := hide hB
  clear hB hW0
  go_loopg [7] 16 (fun gk i wr => ∃ k : Int, i = .int .i64 k ∧ -1 ≤ k ∧ k ≤ 15 ∧ Hid ((gk : Int) = 15 - k) ∧ Hid (Held3 w B (.int .i64 a) (.int .i64 b) (.int .i64 c) wr))
  case atStart => exact ⟨-1, rfl, by omega, by omega, hide (by omega), HK⟩
  case round =>
    clear HK
    obtain ⟨k, rfl, hk0, hk1, HG, HK⟩ := hrel
    by_cases hlt : k < 15
    · go_wp2_with fail
      go_region_held3 (fun w' => w'.cell? ⟨B, 0, none⟩ = some (.int .i64 a) ∧ w'.cell? ⟨B, 1, none⟩ = some (.int .i64 b) ∧ w'.cell? ⟨B, 2, none⟩ = some (.int .i64 c) ∧ Hid (UTabs w') ∧ Hid (Below w.heap.size w w'))
        (first | exact keep3d HK.out | exact keep3 (by assumption) hb2)
        (first
          | (go_at_call 7; refine (to_any s _ _ _ _ hs (by assumption : _ ∧ _ ∧ _ ∧ Hid (UTabs _) ∧ Hid (Below w.heap.size w _)).2.2.2.1.out).mono ?_; rintro e w2 ⟨rfl, hb2⟩)
          | (go_at_call 8; refine (rto_any s _ _ _ _ hs (by first | exact HBB.out | decide)).mono ?_; rintro e w2 ⟨rfl, hb2⟩))
      all_goals go_wp2
      all_goals go_roundg (gk - 1)
      case measure => have := HG.out; omega
      case rel =>
        rename_i hH
        exact ⟨k + 1, rfl, by omega, by omega, hide (by have := HG.out; omega), hide hH⟩
    · go_wp2_with fail
      go_region_held3 (fun w' => w'.cell? ⟨B, 0, none⟩ = some (.int .i64 a) ∧ w'.cell? ⟨B, 1, none⟩ = some (.int .i64 b) ∧ w'.cell? ⟨B, 2, none⟩ = some (.int .i64 c) ∧ Hid (UTabs w') ∧ Hid (Below w.heap.size w w'))
        (first | exact keep3d HK.out | exact keep3 (by assumption) hb2 | assumption)
        (first
          | (go_at_call 7; refine (to_any s _ _ _ _ hs (by assumption : _ ∧ _ ∧ _ ∧ Hid (UTabs _) ∧ Hid (Below w.heap.size w _)).2.2.2.1.out).mono ?_; rintro e w2 ⟨rfl, hb2⟩)
          | (go_at_call 8; refine (rto_any s _ _ _ _ hs (by first | exact HBB.out | decide)).mono ?_; rintro e w2 ⟨rfl, hb2⟩)
          | (go_at_call 9; refine (fix_any s _ _ hs).mono ?_; rintro e w2 ⟨rfl, hb2⟩)
          | (go_at_call 10; refine (rfix_any s _ _ hs).mono ?_; rintro e w2 ⟨rfl, hb2⟩)
          | (go_at_call 11; refine (class_any _ _).mono ?_; rintro e w' ⟨rfl, rfl⟩)
          | (go_at_call 12; refine (rclass_any _ _).mono ?_; rintro e w' ⟨rfl, rfl⟩)
          | (go_at_call 6; refine (moved_any _ (by assumption : _ ∧ _ ∧ _ ∧ Hid (UTabs _) ∧ Hid (Below w.heap.size w _)).2.2.2.1.out).mono ?_; rintro e w2 ⟨rfl, hb2⟩))
      all_goals go_wp2
      all_goals go_ret
      all_goals
        rename_i hH
        exact ⟨rfl, hH.2.2.2.2.out⟩
end Go.Proofs.YtkmcfcpockpadaaDoor
