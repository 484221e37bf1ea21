/- Contracts of rules.Word at two names, and of limnerlaw13.worded. -/
import Derived.Test.YtfamoikmfbpigaaDoorRtab
namespace Go.Proofs.YtfamoikmfbpigaaDoor
open Go.RowKit

/-- The library's own variable holds some number. -/
def MTab (w : World) : Prop := ∃ m, w.cell? ⟨2, 0, none⟩ = some (.int .i64 m)
theorem MTab.below {w W : World} (h : MTab w) (hb : Below w.heap.size w W) : MTab W := by
  obtain ⟨m, h⟩ := h
  exact ⟨m, (hb.cell (World.block_lt_of_cell? _ _ h)).trans h⟩

theorem has_call (s t : ByteArray) (r : Bool) (w : World) (hM : MTab w) (hs : s.size < 4294967281) (h : Lib.contains s.data.toList t.data.toList = r) :
    Calls Tryd.prog 48 #[.string s, .string t] w fun e w' => e = .returned (.bool r) ∧ w = w' := by
  obtain ⟨m, hm⟩ := hM
  exact (Tryd.strings_Contains s t m w hs hm).mono fun e w' ⟨he, hw⟩ => ⟨by rw [he, h], hw.symm⟩

def wordsS : ByteArray := ⟨#[32, 105, 102, 32, 101, 108, 115, 101, 32, 108, 101, 116, 32, 105, 110, 32, 102, 117, 110, 32, 116, 114, 117, 101, 32, 102, 97, 108, 115, 101, 32, 97, 110, 100, 32, 111, 114, 32, 110, 111, 116, 32]⟩
theorem h1 : Lib.contains (⟨#[108, 101, 116]⟩ : ByteArray).data.toList (⟨#[32]⟩ : ByteArray).data.toList = false := by decide +kernel
theorem h2 : Lib.contains (⟨#[76, 101, 116]⟩ : ByteArray).data.toList (⟨#[32]⟩ : ByteArray).data.toList = false := by decide +kernel
theorem h3 : Lib.contains wordsS.data.toList (⟨#[32]⟩ ++ ⟨#[108, 101, 116]⟩ ++ ⟨#[32]⟩ : ByteArray).data.toList = true := by decide +kernel
theorem h4 : Lib.contains wordsS.data.toList (⟨#[32]⟩ ++ ⟨#[76, 101, 116]⟩ ++ ⟨#[32]⟩ : ByteArray).data.toList = false := by decide +kernel
theorem hsz : wordsS.size < 4294967281 := by decide +kernel

set_option maxHeartbeats 1000000 in
set_option maxRecDepth 100000 in
theorem word_let (w : World) (hM : MTab w) : Calls Tryd.prog 34 #[.string ⟨#[108, 101, 116]⟩] w fun e w' => e = .returned (.bool true) ∧ w = w' := by
  have HM := hide hM
  have x3 := h3
  have xz := hsz
  obtain ⟨x, hx⟩ : ∃ x, (⟨#[32]⟩ ++ ⟨#[108, 101, 116]⟩ ++ ⟨#[32]⟩ : ByteArray) = x := ⟨_, rfl⟩
  rw [hx] at x3
  have HX := hide hx
  have X3 := hide x3
  have XZ := hide xz
  clear hM hx x3 xz
  go_enter Tryd.func34, Tryd.ntmps34
  go_wp2_with fail
  refine (has_call ⟨#[108, 101, 116]⟩ ⟨#[32]⟩ false _ HM.out (by decide) h1).mono ?_
  rintro e w' ⟨rfl, rfl⟩
  go_wp2_with fail
  rw [HX.out]
  refine (has_call wordsS x true _ HM.out XZ.out X3.out).mono ?_
  rintro e w' ⟨rfl, rfl⟩
  go_wp2_with fail
  go_ret
  exact ⟨rfl, rfl⟩
set_option maxHeartbeats 1000000 in
set_option maxRecDepth 100000 in
theorem word_Let (w : World) (hM : MTab w) : Calls Tryd.prog 34 #[.string ⟨#[76, 101, 116]⟩] w fun e w' => e = .returned (.bool false) ∧ w = w' := by
  have HM := hide hM
  have x3 := h4
  have xz := hsz
  obtain ⟨x, hx⟩ : ∃ x, (⟨#[32]⟩ ++ ⟨#[76, 101, 116]⟩ ++ ⟨#[32]⟩ : ByteArray) = x := ⟨_, rfl⟩
  rw [hx] at x3
  have HX := hide hx
  have X3 := hide x3
  have XZ := hide xz
  clear hM hx x3 xz
  go_enter Tryd.func34, Tryd.ntmps34
  go_wp2_with fail
  refine (has_call ⟨#[76, 101, 116]⟩ ⟨#[32]⟩ false _ HM.out (by decide) h2).mono ?_
  rintro e w' ⟨rfl, rfl⟩
  go_wp2_with fail
  rw [HX.out]
  refine (has_call wordsS x false _ HM.out XZ.out X3.out).mono ?_
  rintro e w' ⟨rfl, rfl⟩
  go_wp2_with fail
  go_ret
  exact ⟨rfl, rfl⟩

theorem l05 : 5 < (rowN 0).length := by decide +kernel
theorem l03 : 3 < (rowN 0).length := by decide +kernel
theorem l11 : 1 < (rowN 1).length := by decide +kernel
theorem l20 : 0 < (rowN 2).length := by decide +kernel
theorem l21 : 1 < (rowN 2).length := by decide +kernel
theorem r05 : (ruleN 0 5).2.2 = 3 := by decide +kernel
theorem r20 : (ruleN 2 0).2.2 = 3 := by decide +kernel
theorem r21 : (ruleN 2 1).2.2 = 4 := by decide +kernel
theorem k03 : (ruleN 0 3).2.1 = 5 := by decide +kernel
theorem k11 : (ruleN 1 1).2.1 = 10 := by decide +kernel

/-- A comment begins. -/
theorem after_begin (w : World) (hT : RTab w) : Calls Tryd.prog 23 #[.agg #[.int .i64 0, .int .i64 0], .int .i64 5] w fun e w' => e = .returned (.agg #[.int .i64 2, .int .i64 1]) ∧ Below w.heap.size w w' :=
  (after_any 0 5 0 w (by omega) l05 (by omega) (by omega) hT).mono fun e w' ⟨he, hb⟩ => ⟨by rw [he, r05]; rfl, hb⟩
/-- One deeper. -/
theorem after_deep (d : Int) (w : World) (h0 : 0 ≤ d) (h1 : d ≤ 16383) (hT : RTab w) : Calls Tryd.prog 23 #[.agg #[.int .i64 2, .int .i64 d], .int .i64 0] w fun e w' => e = .returned (.agg #[.int .i64 2, .int .i64 (d + 1)]) ∧ Below w.heap.size w w' :=
  (after_any 2 0 d w (by omega) l20 (by omega) (by omega) hT).mono fun e w' ⟨he, hb⟩ => ⟨by
    rw [he, r20]
    have : aftS 2 d 3 = (2, d + 1) := by
      unfold aftS
      rw [if_neg (by omega), if_neg (by omega), if_pos rfl, Int.max_eq_left h0, Int.min_eq_left h1]
    exact ret_st (by show aftS 2 d 3 = _; exact this), hb⟩
/-- One less deep. -/
theorem after_less (d : Int) (w : World) (h0 : 1 < d) (h1 : d ≤ 16383) (hT : RTab w) : Calls Tryd.prog 23 #[.agg #[.int .i64 2, .int .i64 d], .int .i64 1] w fun e w' => e = .returned (.agg #[.int .i64 2, .int .i64 (d - 1)]) ∧ Below w.heap.size w w' :=
  (after_any 2 1 d w (by omega) l21 (by omega) (by omega) hT).mono fun e w' ⟨he, hb⟩ => ⟨by
    rw [he, r21]
    have : aftS 2 d 4 = (2, d - 1) := by
      unfold aftS
      rw [if_neg (by omega), if_neg (by omega), if_neg (by omega), if_pos ⟨rfl, h0⟩]
    exact ret_st (by show aftS 2 d 4 = _; exact this), hb⟩
/-- Back to code. -/
theorem after_end (w : World) (hT : RTab w) : Calls Tryd.prog 23 #[.agg #[.int .i64 2, .int .i64 1], .int .i64 1] w fun e w' => e = .returned (.agg #[.int .i64 0, .int .i64 0]) ∧ Below w.heap.size w w' :=
  (after_any 2 1 1 w (by omega) l21 (by omega) (by omega) hT).mono fun e w' ⟨he, hb⟩ => ⟨by rw [he, r21]; rfl, hb⟩
theorem kind03 (w : World) (hT : RTab w) : Calls Tryd.prog 22 #[.int .i64 0, .int .i64 3] w fun e w' => e = .returned (.int .i64 5) ∧ Below w.heap.size w w' :=
  (kind_ok 0 3 w (by omega) l03 hT).mono fun e w' ⟨he, hb⟩ => ⟨by rw [he, k03], hb⟩
theorem kind11 (w : World) (hT : RTab w) : Calls Tryd.prog 22 #[.int .i64 1, .int .i64 1] w fun e w' => e = .returned (.int .i64 10) ∧ Below w.heap.size w w' :=
  (kind_ok 1 1 w (by omega) l11 hT).mono fun e w' ⟨he, hb⟩ => ⟨by rw [he, k11], hb⟩

set_option maxHeartbeats 1000000 in
set_option maxRecDepth 100000 in
theorem worded_any (w : World) (hT : RTab w) (hM : MTab w) : Calls Tryd.prog 20 #[] w fun e w' => e = .returned (.bool true) ∧ Below w.heap.size w w' := by
  have HT := hide hT
  have HM := hide hM
  clear hT hM
  go_enter Tryd.func20, Tryd.ntmps20
  go_wp2_with fail
  refine (kind03 _ HT.out).mono ?_; rintro e w1 ⟨rfl, hb⟩; have B1 := hide hb; clear hb
  go_wp2_with fail
  refine (kind11 _ (HT.out.below B1.out)).mono ?_; rintro e w2 ⟨rfl, hb⟩; have B2 := hide (B1.out.trans (hb.mono B1.out.size)); clear hb
  go_wp2_with fail
  refine (kind_out 5 0 _ (by omega)).mono ?_; rintro e w3 ⟨rfl, hb⟩; have B3 := hide (B2.out.trans (hb.mono B2.out.size)); clear hb
  go_wp2_with fail
  refine (after_begin _ (HT.out.below B3.out)).mono ?_; rintro e w4 ⟨rfl, hb⟩; have B4 := hide (B3.out.trans (hb.mono B3.out.size)); clear hb
  go_wp2_with fail
  refine (after_less 2 _ (by omega) (by omega) (HT.out.below B4.out)).mono ?_; rintro e w5 ⟨rfl, hb⟩; have B5 := hide (B4.out.trans (hb.mono B4.out.size)); clear hb
  go_wp2_with fail
  refine (after_end _ (HT.out.below B5.out)).mono ?_; rintro e w6 ⟨rfl, hb⟩; have B6 := hide (B5.out.trans (hb.mono B5.out.size)); clear hb
  go_wp2_with fail
  refine (word_let _ (HM.out.below B6.out)).mono ?_; rintro e w' ⟨rfl, rfl⟩
  go_wp2_with fail
  refine (word_Let _ (HM.out.below B6.out)).mono ?_; rintro e w' ⟨rfl, rfl⟩
  go_wp2_with fail
  go_ret
  exact ⟨rfl, B6.out⟩
end Go.Proofs.YtfamoikmfbpigaaDoor
