/- An Undo that is none: what its methods answer. The walk of limnerlaw05.UndoNone. -/
import Derived.Test.YtgpcpfohfoeclaaUhist
namespace Go.Proofs.Ytgpcpfohfoeclaa
open Go.RowKit

/-- The value is no Undo: nil, or one without a text. -/
def BadU (W : World) (p : Value) : Prop := p = .pointer none ∨ ∃ b, p = .pointer (some ⟨b, 0, none⟩) ∧ W.cell? ⟨b, 0, none⟩ = some (.pointer none)
theorem BadU.below {A W : World} {p : Value} (h : BadU A p) (hb : Below A.heap.size A W) : BadU W p := by
  rcases h with h | ⟨b, e, h⟩
  · exact .inl h
  · exact .inr ⟨b, e, (hb.cell (p := ⟨b, 0, none⟩) (World.block_lt_of_cell? _ _ h)).trans h⟩
theorem bad_none (p : Value) (w : World) (h : BadU w p) : Calls Try.prog 24 #[p] w fun e w' => e = .returned (.bool true) ∧ w = w' := by
  rcases h with rfl | ⟨b, rfl, h⟩
  · go_enter Try.func24, Try.ntmps24
    go_wp2
    go_ret
    exact ⟨rfl, rfl⟩
  · go_enter Try.func24, Try.ntmps24
    go_wp2
    go_ret
    exact ⟨rfl, rfl⟩
theorem bad_Undo (p : Value) (w : World) (h : BadU w p) : Calls Try.prog 12 #[p] w fun e w' => e = .returned (.tuple #[.pointer none, .int .i64 0, .bool false]) ∧ w = w' := by
  go_enter Try.func12, Try.ntmps12
  go_wp2_with fail
  refine (bad_none p _ h).mono ?_; rintro e w1 ⟨rfl, rfl⟩
  go_wp2
  go_ret3
  exact ⟨rfl, rfl⟩
theorem bad_Redo (p : Value) (w : World) (h : BadU w p) : Calls Try.prog 15 #[p] w fun e w' => e = .returned (.tuple #[.pointer none, .int .i64 0, .bool false]) ∧ w = w' := by
  go_enter Try.func15, Try.ntmps15
  go_wp2_with fail
  refine (bad_none p _ h).mono ?_; rintro e w1 ⟨rfl, rfl⟩
  go_wp2
  go_ret3
  exact ⟨rfl, rfl⟩
theorem bad_Now (p : Value) (w : World) (h : BadU w p) : Calls Try.prog 16 #[p] w fun e w' => e = .returned (.tuple #[.pointer none, .int .i64 0]) ∧ w = w' := by
  go_enter Try.func16, Try.ntmps16
  go_wp2_with fail
  refine (bad_none p _ h).mono ?_; rintro e w1 ⟨rfl, rfl⟩
  go_wp2
  go_ret2
  exact ⟨rfl, rfl⟩
theorem bad_Do (p q : Value) (c g : Int) (w : World) (h : BadU w p) : Calls Try.prog 10 #[p, q, .int .i64 c, .int .i64 g] w fun e w' => e = .returned (.bool false) ∧ w = w' := by
  go_enter Try.func10, Try.ntmps10
  go_wp2_with fail
  refine (bad_none p _ h).mono ?_; rintro e w1 ⟨rfl, rfl⟩
  go_wp2
  go_ret
  exact ⟨rfl, rfl⟩
theorem bad_Move (p : Value) (c : Int) (w : World) (h : BadU w p) : Calls Try.prog 19 #[p, .int .i64 c] w fun e w' => e = .returned (.tuple #[]) ∧ w = w' := by
  go_enter Try.func19, Try.ntmps19
  go_wp2_with fail
  refine (bad_none p _ h).mono ?_; rintro e w1 ⟨rfl, rfl⟩
  go_wp2
  go_end0
  exact ⟨rfl, rfl⟩
theorem bad_steps (p : Value) (w : World) (h : BadU w p) : Calls Try.prog 14 #[p, .int .i64 0, .int .i64 0] w fun e w' => e = .returned (.bool true) ∧ w = w' := by
  have HS : Calls Try.prog 27 #[p] w fun e w' => e = .returned (.tuple #[.int .i64 0, .int .i64 0]) ∧ w = w' := by
    go_enter Try.func27, Try.ntmps27
    go_wp2_with fail
    refine (bad_none p _ h).mono ?_; rintro e w1 ⟨rfl, rfl⟩
    go_wp2
    go_ret2
    exact ⟨rfl, rfl⟩
  have HH := hide HS
  clear HS
  go_enter Try.func14, Try.ntmps14
  go_wp2_with fail
  refine HH.out.mono ?_; rintro e w1 ⟨rfl, rfl⟩
  go_wp2
  go_ret
  exact ⟨rfl, rfl⟩
theorem new_nil (c : Int) (w : World) : Calls Try.prog 8 #[.pointer none, .int .i64 c] w fun e w' => e = .returned (.pointer none) ∧ w = w' := by
  go_enter Try.func8, Try.ntmps8
  go_wp2
  go_ret
  exact ⟨rfl, rfl⟩
theorem do_nil (B b : Nat) (cur : Nat × Int × ByteArray) (were gone : List (Nat × Int × ByteArray)) (o c g : Int) (w : World) (h : Und w B b cur were gone o) :
    Calls Try.prog 10 #[.pointer (some ⟨b, 0, none⟩), .pointer none, .int .i64 c, .int .i64 g] w fun e w' => e = .returned (.bool false) ∧ w = w' := by
  obtain ⟨h0, h1, wv, gv, h2, h3, h4, h5⟩ := h
  have HU := hide h2
  clear h1 h3 h4 h5 h2
  go_enter Try.func10, Try.ntmps10
  go_wp2_with fail
  refine (none_undo b _ _ _ _ o _ HU.out).mono ?_; rintro e w1 ⟨rfl, rfl⟩
  go_wp2
  go_ret
  exact ⟨rfl, rfl⟩

set_option maxHeartbeats 2000000 in
set_option maxRecDepth 100000 in
theorem UndoNone_any (c g : Int) (w : World) : Calls Try.prog 6 #[.int .i64 c, .int .i64 g] w fun e w' => e = .returned (.bool true) ∧ Below w.heap.size w w' := by
  have HB := hide (Below.refl w.heap.size w)
  have HU := hide (show BadU w (.pointer none) from .inl rfl)
  go_enter Try.func6, Try.ntmps6
  go_wp2_with fail
  go_loopw [5, 6] (fun u turn wr => ∃ k : Nat, k ≤ 2 ∧ turn = .int .i64 (k : Int) ∧ Hid (BadU wr u) ∧ Hid (Below w.heap.size w wr)) (fun _ turn _ => 2 - (intOf turn).toNat)
  case atStart => exact ⟨0, by omega, rfl, HU, HB⟩
  case round =>
    obtain ⟨k, hk, rfl, HUr, HBr⟩ := hrel
    by_cases hlt : k < 2
    · go_wp2_with fail
      refine (bad_Undo _ _ HUr.out).mono ?_; rintro e w1 ⟨rfl, rfl⟩
      go_wp2_with fail
      refine (bad_Redo _ _ HUr.out).mono ?_; rintro e w1 ⟨rfl, rfl⟩
      go_wp2_with fail
      refine (bad_Now _ _ HUr.out).mono ?_; rintro e w1 ⟨rfl, rfl⟩
      go_wp2_with fail
      refine (bad_Move _ c _ HUr.out).mono ?_; rintro e w1 ⟨rfl, rfl⟩
      go_wp2_with fail
      refine (mk2 ⟨#[97]⟩ _ (by decide)).mono ?_; rintro e w2 ⟨ga, rfl, t1, b1⟩
      replace HBr := hide (HBr.out.trans (b1.mono HBr.out.size))
      replace HUr := hide (HUr.out.below b1)
      clear t1 b1
      go_wp2_with fail
      refine (bad_Do _ _ c g _ HUr.out).mono ?_; rintro e w1 ⟨rfl, rfl⟩
      go_wp2_with fail
      refine (bad_steps _ _ HUr.out).mono ?_; rintro e w1 ⟨rfl, rfl⟩
      go_wp2
      go_roundw
      case rel => exact ⟨k + 1, by omega, by go_num, hide (.inr ⟨_, rfl, by simp⟩), hide (HBr.out.alloc HBr.out.size _)⟩
      case measure => simp [intOf]; omega
    · obtain rfl : k = 2 := by omega
      go_wp2_with fail
      refine (mk2 ⟨#[97]⟩ _ (by decide)).mono ?_; rintro e w2 ⟨ga, rfl, t1, b1⟩
      replace HBr := hide (HBr.out.trans (b1.mono HBr.out.size))
      have TA := hide t1
      clear t1 b1
      go_wp2_with fail
      refine (new_und w.heap.size (ga, c, ⟨#[97]⟩) _ HBr.out.size TA.out).mono ?_; rintro e w3 ⟨rfl, u1, b1⟩
      obtain ⟨u, hu⟩ : ∃ m, w2.heap.size = m := ⟨_, rfl⟩
      rw [hu] at u1 ⊢
      clear hu
      replace HBr := hide (HBr.out.trans (b1.mono HBr.out.size))
      replace TA := hide (TA.out.below b1)
      have HV := hide u1
      clear u1 b1
      go_wp2_with fail
      refine (now_und w.heap.size u (ga, c, ⟨#[97]⟩) [] [] 0 _ HV.out).mono ?_; rintro e w4 ⟨rfl, b1⟩
      replace HBr := hide (HBr.out.trans (b1.mono HBr.out.size))
      replace TA := hide (TA.out.below b1)
      replace HV := hide (HV.out.below b1)
      clear b1
      go_wp2_with fail
      refine (new_nil c _).mono ?_; rintro e w5 ⟨rfl, rfl⟩
      go_wp2_with fail
      refine (do_nil w.heap.size u (ga, c, ⟨#[97]⟩) [] [] 0 c g _ HV.out).mono ?_; rintro e w5 ⟨rfl, rfl⟩
      go_wp2_with fail
      refine (steps_und w.heap.size u (ga, c, ⟨#[97]⟩) [] [] 0 _ HV.out).mono ?_; rintro e w5 ⟨rfl, b1⟩
      replace HBr := hide (HBr.out.trans (b1.mono HBr.out.size))
      replace TA := hide (TA.out.below b1)
      clear b1
      go_wp2_with fail
      refine (is_true _ c ⟨#[97]⟩ _ (by decide) TA.out).mono ?_; rintro e w6 ⟨rfl, b1⟩
      replace HBr := hide (HBr.out.trans (b1.mono HBr.out.size))
      clear b1
      go_wp2_with fail
      refine (undone_any _).mono ?_; rintro e w7 ⟨rfl, b1⟩
      replace HBr := hide (HBr.out.trans (b1.mono HBr.out.size))
      go_wp2
      go_ret
      exact ⟨rfl, HBr.out⟩
end Go.Proofs.Ytgpcpfohfoeclaa
