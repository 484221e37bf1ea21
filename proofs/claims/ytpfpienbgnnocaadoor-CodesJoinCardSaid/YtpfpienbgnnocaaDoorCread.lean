/- limnerlaw01.read: the chapter's examples. -/
import Derived.Test.YtpfpienbgnnocaaDoorCback
import Derived.KernelRfl
namespace Go.Proofs.YtpfpienbgnnocaaDoor
open Go.RowKit

/-- codes.Put. -/
theorem cput_any (r : Int) (w : World) : Calls Tryd.prog 20 #[.int .i32 r] w fun e w' => e = .returned (.string (putS r)) ∧ w = w' := by
  have hv : Utf8.valid r = Lib.validRune r := by
    rw [Bool.eq_iff_iff]
    simp only [Utf8.valid, Lib.validRune, Bool.or_eq_true, Bool.and_eq_true, decide_eq_true_eq]
    omega
  cases h : Lib.validRune r
  · have H := hide h
    have HP := hide (show putS r = ⟨#[]⟩ by rw [putS, hv, h]; rfl)
    clear h hv
    go_enter Tryd.func20, Tryd.ntmps20
    go_wp2_with (go_at_call 26; refine (Tryd.utf8_ValidRune r _).mono ?_; rw [H.out]; rintro e w1 ⟨rfl, rfl⟩)
    go_ret
    exact ⟨ret_str HP.out.symm, rfl⟩
  · have H := hide h
    have HP := hide (show putS r = Utf8.encode r by rw [putS, hv, h]; rfl)
    clear h hv
    go_enter Tryd.func20, Tryd.ntmps20
    go_wp2_with (go_at_call 26; refine (Tryd.utf8_ValidRune r _).mono ?_; rw [H.out]; rintro e w1 ⟨rfl, rfl⟩)
    go_ret
    exact ⟨ret_str HP.out.symm, rfl⟩

theorem rd1 (w : World) (hU : UTabs w) : Calls Tryd.prog 10 #[.string ⟨#[97, 195, 169]⟩, .int .i64 1] w fun e w' => e = .returned (.tuple #[.int .i32 233, .int .i64 2, .bool true]) ∧ Below w.heap.size w w' :=
  (next_any ⟨#[97, 195, 169]⟩ 1 w (by decide) (by decide) hU).mono fun e w' ⟨he, hb⟩ => ⟨by rw [he, show Utf8.decode ⟨#[97, 195, 169]⟩ 1 = (233, 2) by decide +kernel, show runeOk ⟨#[97, 195, 169]⟩ 1 = true by decide +kernel]; rfl, hb⟩
theorem rd2 (w : World) (hU : UTabs w) : Calls Tryd.prog 10 #[.string ⟨#[97, 195, 169]⟩, .int .i64 2] w fun e w' => e = .returned (.tuple #[.int .i32 65533, .int .i64 1, .bool false]) ∧ Below w.heap.size w w' :=
  (next_any ⟨#[97, 195, 169]⟩ 2 w (by decide) (by decide) hU).mono fun e w' ⟨he, hb⟩ => ⟨by rw [he, show Utf8.decode ⟨#[97, 195, 169]⟩ 2 = (65533, 1) by decide +kernel, show runeOk ⟨#[97, 195, 169]⟩ 2 = false by decide +kernel]; rfl, hb⟩
theorem rd3 (w : World) : Calls Tryd.prog 10 #[.string ⟨#[97, 195, 169]⟩, .int .i64 3] w fun e w' => e = .returned (.tuple #[.int .i32 0, .int .i64 0, .bool false]) ∧ w = w' :=
  next_out ⟨#[97, 195, 169]⟩ 3 w (by decide) (by decide)
theorem rd4 (w : World) (hU : UTabs w) : Calls Tryd.prog 12 #[.string ⟨#[97, 195, 169]⟩, .int .i64 3] w fun e w' => e = .returned (.tuple #[.int .i32 233, .int .i64 2, .bool true]) ∧ Below w.heap.size w w' :=
  (cback_any ⟨#[97, 195, 169]⟩ 3 w (by decide) (by decide) (by decide) hU).mono fun e w' ⟨he, hb⟩ => ⟨by rw [he, show Utf8.decode (ByteArray.extract ⟨#[97, 195, 169]⟩ 0 3) (lastS (ByteArray.extract ⟨#[97, 195, 169]⟩ 0 3)) = (233, 2) by decide +kernel, show runeOk (ByteArray.extract ⟨#[97, 195, 169]⟩ 0 3) (lastS (ByteArray.extract ⟨#[97, 195, 169]⟩ 0 3)) = true by decide +kernel]; rfl, hb⟩
theorem rd5 (w : World) (hU : UTabs w) : Calls Tryd.prog 12 #[.string ⟨#[97, 195, 169]⟩, .int .i64 2] w fun e w' => e = .returned (.tuple #[.int .i32 65533, .int .i64 1, .bool false]) ∧ Below w.heap.size w w' :=
  (cback_any ⟨#[97, 195, 169]⟩ 2 w (by decide) (by decide) (by decide) hU).mono fun e w' ⟨he, hb⟩ => ⟨by rw [he, show Utf8.decode (ByteArray.extract ⟨#[97, 195, 169]⟩ 0 2) (lastS (ByteArray.extract ⟨#[97, 195, 169]⟩ 0 2)) = (65533, 1) by decide +kernel, show runeOk (ByteArray.extract ⟨#[97, 195, 169]⟩ 0 2) (lastS (ByteArray.extract ⟨#[97, 195, 169]⟩ 0 2)) = false by decide +kernel]; rfl, hb⟩
theorem exStarts : starts (⟨#[97, 195, 169]⟩ ++ ⟨#[255]⟩) = [0, 1, 3] := by decide +kernel
theorem exCount : Lib.runeCount (⟨#[97, 195, 169]⟩ ++ ⟨#[255]⟩) = 3 := by decide +kernel
theorem exValid : validS (⟨#[97, 195, 169]⟩ ++ ⟨#[255]⟩) = false := by decide +kernel
theorem exSize : (⟨#[97, 195, 169]⟩ ++ ⟨#[255]⟩ : ByteArray).size ≤ 1048576 := by decide +kernel
theorem exPut1 : putS 8364 = ⟨#[226, 130, 172]⟩ := by decide +kernel
theorem exPut2 : putS 55296 = ⟨#[]⟩ := by decide +kernel
theorem exPut3 : putS (-1) = ⟨#[]⟩ := by decide +kernel
theorem nats_lit (W : World) (t : TypeId) : NatsAt (some ⟨W.heap.size, 0, none⟩) [0, 1, 3] (W.alloc (.cells #[.int .i64 0, .int .i64 1, .int .i64 3] t)) := by
  intro k hk
  refine ⟨_, rfl, ?_⟩
  have hk' : k = 0 ∨ k = 1 ∨ k = 2 := by simp at hk; omega
  rcases hk' with rfl | rfl | rfl <;> simp

set_option maxHeartbeats 1000000 in
set_option maxRecDepth 100000 in
theorem read_any (w : World) (hU : UTabs w) : Calls Tryd.prog 9 #[] w fun e w' => e = .returned (.bool true) ∧ Below w.heap.size w w' := by
  have HU := hide hU
  clear hU
  have x0 := exSize
  have x1 := exStarts
  have x2 := exCount
  have x3 := exValid
  obtain ⟨s4, hs4⟩ : ∃ s4 : ByteArray, (⟨#[97, 195, 169]⟩ ++ ⟨#[255]⟩ : ByteArray) = s4 := ⟨_, rfl⟩
  rw [hs4] at x0 x1 x2 x3
  have HS4 := hide hs4
  have X1 := hide x1
  have X2 := hide x2
  have X3 := hide x3
  clear hs4 x1 x2 x3
  go_enter Tryd.func9, Tryd.ntmps9
  go_wp2_with fail
  refine (rd1 _ HU.out).mono ?_
  rintro e w1 ⟨rfl, hb⟩
  have B1 := hide hb
  clear hb
  go_wp2_with fail
  refine (rd2 _ (HU.out.below B1.out)).mono ?_
  rintro e w2 ⟨rfl, hb⟩
  have B2 := hide (B1.out.trans (hb.mono B1.out.size))
  clear hb
  go_wp2_with fail
  refine (rd3 _).mono ?_
  rintro e w' ⟨rfl, rfl⟩
  go_wp2_with fail
  refine (rd4 _ (HU.out.below B2.out)).mono ?_
  rintro e w4 ⟨rfl, hb⟩
  have B4 := hide (B2.out.trans (hb.mono B2.out.size))
  clear hb
  go_wp2_with fail
  refine (rd5 _ (HU.out.below B4.out)).mono ?_
  rintro e w5 ⟨rfl, hb⟩
  have B5 := hide (B4.out.trans (hb.mono B4.out.size))
  clear hb
  go_wp2_with fail
  rw [HS4.out]
  refine (cstarts_any s4 _ x0).mono ?_
  unfold StartsPost
  rw [X1.out]
  rintro e w6 ⟨A, c, rfl, hown, hb⟩
  have B6 := hide (B5.out.trans (hb.mono B5.out.size))
  have HN := hide (NatsAt.of_own hown)
  clear hb hown
  go_wp2_with fail
  refine (ints_same A _ c _ [0, 1, 3] _ (by decide) (HN.out.below ((Below.refl _ _).alloc (Nat.le_refl _) _)) (nats_lit _ _)).mono ?_
  rintro e w7 ⟨rfl, hb⟩
  have B7 := hide ((B6.out.alloc B6.out.size _).trans (hb.mono (by have := B6.out.size; simp; omega)))
  clear hb
  go_wp2_with fail
  rw [HS4.out]
  refine (count_any s4 _ x0).mono ?_
  rw [X2.out]
  rintro e w8 ⟨rfl, hb⟩
  have B8 := hide (B7.out.trans (hb.mono B7.out.size))
  clear hb
  go_wp2_with fail
  rw [HS4.out]
  refine (valid_any s4 _ (by omega) (HU.out.below B8.out)).mono ?_
  rw [X3.out]
  rintro e w9 ⟨rfl, hb⟩
  have B9 := hide (B8.out.trans (hb.mono B8.out.size))
  clear hb
  go_wp2_with fail
  refine (cput_any 8364 _).mono ?_
  rw [exPut1]
  rintro e w' ⟨rfl, rfl⟩
  go_wp2_with fail
  refine (cput_any 55296 _).mono ?_
  rw [exPut2]
  rintro e w' ⟨rfl, rfl⟩
  go_wp2_with fail
  refine (cput_any (-1) _).mono ?_
  rw [exPut3]
  rintro e w' ⟨rfl, rfl⟩
  go_wp2_with fail
  go_ret
  exact ⟨rfl, B9.out⟩
end Go.Proofs.YtpfpienbgnnocaaDoor
