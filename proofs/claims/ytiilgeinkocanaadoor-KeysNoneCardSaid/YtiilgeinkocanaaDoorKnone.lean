/- The walk of KeysNone. -/
import Derived.Test.YtiilgeinkocanaaDoorKpressed
namespace Go.Proofs.YtiilgeinkocanaaDoor
open Go.RowKit

theorem feed_nil (x : Int) (w : World) : Calls Tryd.prog 15 #[.pointer none, .int .u8 x] w fun e w' => e = .returned (.slice none 0 0) ∧ w = w' := by
  go_enter Tryd.func15, Tryd.ntmps15
  go_wp2_with fail
  refine (none_nil _).mono ?_
  rintro e w1 ⟨rfl, rfl⟩
  go_wp2_with fail
  go_ret
  exact ⟨rfl, rfl⟩
theorem feed_zero (D : Nat) (x : Int) (w : World) (h : w.cell? ⟨D, 0, none⟩ = some .nilIface) : Calls Tryd.prog 15 #[.pointer (some ⟨D, 0, none⟩), .int .u8 x] w fun e w' => e = .returned (.slice none 0 0) ∧ w = w' := by
  go_enter Tryd.func15, Tryd.ntmps15
  go_wp2_with fail
  refine (none_zero D _ h).mono ?_
  rintro e w1 ⟨rfl, rfl⟩
  go_wp2_with fail
  go_ret
  exact ⟨rfl, rfl⟩
theorem tick_nil (w : World) : Calls Tryd.prog 18 #[.pointer none] w fun e w' => e = .returned (.slice none 0 0) ∧ w = w' := by
  go_enter Tryd.func18, Tryd.ntmps18
  go_wp2_with fail
  refine (none_nil _).mono ?_
  rintro e w1 ⟨rfl, rfl⟩
  go_wp2_with fail
  go_ret
  exact ⟨rfl, rfl⟩
theorem tick_zero (D : Nat) (w : World) (h : w.cell? ⟨D, 0, none⟩ = some .nilIface) : Calls Tryd.prog 18 #[.pointer (some ⟨D, 0, none⟩)] w fun e w' => e = .returned (.slice none 0 0) ∧ w = w' := by
  go_enter Tryd.func18, Tryd.ntmps18
  go_wp2_with fail
  refine (none_zero D _ h).mono ?_
  rintro e w1 ⟨rfl, rfl⟩
  go_wp2_with fail
  go_ret
  exact ⟨rfl, rfl⟩
theorem waiting_nil (w : World) : Calls Tryd.prog 17 #[.pointer none] w fun e w' => e = .returned (.bool false) ∧ w = w' := by
  go_enter Tryd.func17, Tryd.ntmps17
  go_wp2_with fail
  refine (none_nil _).mono ?_
  rintro e w1 ⟨rfl, rfl⟩
  go_wp2_with fail
  go_ret
  exact ⟨rfl, rfl⟩
theorem waiting_zero (D : Nat) (w : World) (h : w.cell? ⟨D, 0, none⟩ = some .nilIface) : Calls Tryd.prog 17 #[.pointer (some ⟨D, 0, none⟩)] w fun e w' => e = .returned (.bool false) ∧ w = w' := by
  go_enter Tryd.func17, Tryd.ntmps17
  go_wp2_with fail
  refine (none_zero D _ h).mono ?_
  rintro e w1 ⟨rfl, rfl⟩
  go_wp2_with fail
  go_ret
  exact ⟨rfl, rfl⟩
set_option maxRecDepth 100000 in
set_option maxHeartbeats 2000000 in
theorem keysNone_walk (x : Int) (w : World) (hU : UTabs w) (hT : WTabs w) : Calls Tryd.prog 6 #[.int .u8 x] w fun e w' => e = .returned (.bool true) ∧ Below w.heap.size w w' := by
  have HP := hide (fun W (hW : Below w.heap.size w W) => pressed_any W (hU.below hW) (hT.below hW))
  clear hU hT
  go_enter Tryd.func6, Tryd.ntmps6
  go_wp2
  go_loopw [3, 4] (fun p i wr => ∃ k : Nat, i = .int .i64 k ∧ k ≤ 2 ∧ Hid (Below w.heap.size w wr) ∧ (k = 0 ∧ p = .pointer none ∨ 1 ≤ k ∧ ∃ D, p = .pointer (some ⟨D, 0, none⟩) ∧ Blk wr D 46 [.nilIface])) (fun _ i _ => 2 - (intOf i).toNat)
  case atStart => exact ⟨0, rfl, by omega, hide (Below.refl _ _), .inl ⟨rfl, rfl⟩⟩
  case round =>
    obtain ⟨k, rfl, hk, HB, h⟩ := hrel
    by_cases hlt : k < 2
    · have HB2 := hide (HB.out.alloc HB.out.size (.cells #[.nilIface] 46))
      have HN := hide (Blk.new wr 46 [.nilIface])
      rcases h with ⟨rfl, rfl⟩ | ⟨h1, D, rfl, h2⟩
      · go_wp2_with (first
          | (go_at_call 15; refine (feed_nil x _).mono ?_; rintro e w1 ⟨rfl, rfl⟩)
          | (go_at_call 18; refine (tick_nil _).mono ?_; rintro e w1 ⟨rfl, rfl⟩)
          | (go_at_call 17; refine (waiting_nil _).mono ?_; rintro e w1 ⟨rfl, rfl⟩)
          | fail)
        go_roundw
        case rel => exact ⟨1, rfl, by omega, HB2, .inr ⟨by omega, _, rfl, HN.out⟩⟩
        case measure => simp [intOf]
      · have hc := h2.cell (i := 0) rfl
        clear h2
        go_wp2_with (first
          | (go_at_call 15; refine (feed_zero D x _ hc).mono ?_; rintro e w1 ⟨rfl, rfl⟩)
          | (go_at_call 18; refine (tick_zero D _ hc).mono ?_; rintro e w1 ⟨rfl, rfl⟩)
          | (go_at_call 17; refine (waiting_zero D _ hc).mono ?_; rintro e w1 ⟨rfl, rfl⟩)
          | fail)
        go_roundw
        case rel => exact ⟨k + 1, by go_num, by omega, HB2, .inr ⟨by omega, _, rfl, HN.out⟩⟩
        case measure => simp [intOf]; omega
    · clear h
      go_wp2_with fail
      refine (new_any _).mono ?_
      rintro e w1 ⟨rfl, rfl⟩
      have HB2 := hide (HB.out.alloc HB.out.size (.cells #[.iface 9 (.string ⟨#[]⟩)] 46))
      have hD := (Blk.new wr 46 [.iface 9 (.string ⟨#[]⟩)]).cell (i := 0) rfl
      go_wp2_with fail
      refine (waiting_str _ ⟨#[]⟩ _ hD).mono ?_
      rintro e w2 ⟨rfl, hw2⟩
      subst hw2
      rw [show decide (0 < (⟨#[]⟩ : ByteArray).size) = false from rfl]
      go_wp2_with fail
      refine (HP.out _ HB2.out).mono ?_
      rintro e w3 ⟨rfl, hb3⟩
      have HB3 := hide (HB2.out.trans (hb3.mono HB2.out.size))
      clear hb3
      go_wp2_with fail
      go_ret
      exact ⟨rfl, HB3.out⟩
end Go.Proofs.YtiilgeinkocanaaDoor
