/- The walk of WidthsJoin. -/
import Derived.Test.YtkibkpfjmdibcaaDoorWlaws
import Derived.Test.YtkibkpfjmdibcaaDoorCount
import Derived.Test.YtkibkpfjmdibcaaDoorUtf3
namespace Go.Proofs.YtkibkpfjmdibcaaDoor
open Go.RowKit

theorem textW_join {a b : ByteArray} (h : validS a = true) : textW (a ++ b) = textW a + textW b := by
  have := (sum_join (fun c _ => cells (shown (c : Int))) textFrom (fun s f pos h => textFrom_end h) (fun s f pos h => textFrom_go h) a b).2.2 (a ++ b).size a.size 0 (by omega) (by omega) (by rw [join_size]; omega) (by rw [List.drop_zero]; exact h)
  exact this
theorem text_count (s : ByteArray) : ∀ f pos, ((Lib.runeCountFrom s f pos : Nat) : Int) ≤ textFrom s f pos ∧ textFrom s f pos ≤ 2 * (Lib.runeCountFrom s f pos : Nat)
  | 0, _ => by simp [textFrom, Lib.runeCountFrom]
  | f + 1, pos => by
    simp only [textFrom, Lib.runeCountFrom]
    split
    · have := (shown_facts (Utf8.decode s pos).1).2
      have := text_count s f (pos + (Utf8.decode s pos).2)
      omega
    · omega
theorem textW_bd (s : ByteArray) : 0 ≤ textW s ∧ textW s ≤ 2 * s.size := textFrom_bd s _ _

set_option maxHeartbeats 1000000 in
/-- **limnerlaw02.WidthsJoin answers true.** -/
theorem lawJoin (a b : ByteArray) (w : World) (ha : a.size ≤ 9223372036854775807) (hb : b.size ≤ 9223372036854775807) (hW : WTabs w) (hU : UTabs w) :
    Calls Tryd.prog 7 #[.string a, .string b] w fun e w' => e = .returned (.bool true) ∧ Below w.heap.size w w' := by
  have HW := hide hW
  have HU := hide hU
  clear hW hU
  by_cases h1 : a.size ≤ 500
  by_cases h2 : b.size ≤ 500
  · obtain ⟨C, hC⟩ : ∃ C : Int, ((Lib.runeCount a : Nat) : Int) = C := ⟨_, rfl⟩
    obtain ⟨T, hT⟩ : ∃ T, textW a = T := ⟨_, rfl⟩
    obtain ⟨R, hR⟩ : ∃ R, textW b = R := ⟨_, rfl⟩
    have c1 : C ≤ T ∧ T ≤ 2 * C := by rw [← hC, ← hT]; exact text_count a _ _
    have c2 : 0 ≤ T ∧ T ≤ 1000 := by rw [← hT]; have := textW_bd a; omega
    have c3 : 0 ≤ R ∧ R ≤ 1000 := by rw [← hR]; have := textW_bd b; omega
    obtain ⟨c1a, c1b⟩ := c1
    obtain ⟨c2a, c2b⟩ := c2
    obtain ⟨c3a, c3b⟩ := c3
    have hs : (a ++ b).size ≤ 1048576 := by rw [join_size]; omega
    have HS := hide hs
    have HC := hide hC
    have HT := hide hT
    have HR := hide hR
    cases hv : validS a
    · have HV := hide hv
      clear hv hC hT hR hs
      go_enter Tryd.func7, Tryd.ntmps7
      go_wp2_with (first
        | (go_at_call 15; refine (text_any a _ (by omega) HW.out HU.out).mono ?_; rw [HT.out]; rintro e w1 ⟨rfl, hb1⟩; have HB1 := hide hb1; clear hb1)
        | (go_at_call 18; refine (count_any a _ (by omega)).mono ?_; rw [HC.out]; rintro e w2 ⟨rfl, hb2⟩; have HB2 := hide (HB1.out.trans (hb2.mono HB1.out.size)); clear hb2)
        | (go_at_call 19; refine (valid_any a _ ha (HU.out.below HB2.out)).mono ?_; rw [HV.out]; rintro e w3 ⟨rfl, hb3⟩; have HB3 := hide (HB2.out.trans (hb3.mono HB2.out.size)); clear hb3)
        | (go_at_call 14; refine (wide_any _ (HW.out.below HB3.out) (HU.out.below HB3.out)).mono ?_; rintro e w4 ⟨rfl, hb4⟩))
      go_ret
      exact ⟨rfl, HB3.out.trans (hb4.mono HB3.out.size)⟩
    · have HV := hide hv
      have HJ := hide (show textW (a ++ b) = T + R by rw [textW_join hv, hT, hR])
      clear hv hC hT hR hs
      go_enter Tryd.func7, Tryd.ntmps7
      go_wp2_with fail
      refine (text_any a _ (by omega) HW.out HU.out).mono ?_; rw [HT.out]; rintro e w1 ⟨rfl, hb1⟩; have HB1 := hide hb1; clear hb1
      go_wp2_with fail
      refine (count_any a _ (by omega)).mono ?_; rw [HC.out]; rintro e w2 ⟨rfl, hb2⟩; have HB2 := hide (HB1.out.trans (hb2.mono HB1.out.size)); clear hb2
      go_wp2_with fail
      refine (valid_any a _ ha (HU.out.below HB2.out)).mono ?_; rw [HV.out]; rintro e w3 ⟨rfl, hb3⟩; have HB3 := hide (HB2.out.trans (hb3.mono HB2.out.size)); clear hb3
      go_wp2_with fail
      refine (text_any (a ++ b) _ HS.out (HW.out.below HB3.out) (HU.out.below HB3.out)).mono ?_; rw [HJ.out]; rintro e w4 ⟨rfl, hb4⟩; have HB4 := hide (HB3.out.trans (hb4.mono HB3.out.size)); clear hb4
      go_wp2_with fail
      refine (text_any b _ (by omega) (HW.out.below HB4.out) (HU.out.below HB4.out)).mono ?_; rw [HR.out]; rintro e w5 ⟨rfl, hb5⟩; have HB5 := hide (HB4.out.trans (hb5.mono HB4.out.size)); clear hb5
      go_wp2_with fail
      refine (wide_any _ (HW.out.below HB5.out) (HU.out.below HB5.out)).mono ?_; rintro e w6 ⟨rfl, hb6⟩
      go_wp2
      go_ret
      exact ⟨rfl, HB5.out.trans (hb6.mono HB5.out.size)⟩
  all_goals
    go_enter Tryd.func7, Tryd.ntmps7
    go_wp2_with (go_at_call 14; refine (wide_any _ HW.out HU.out).mono ?_; rintro e w3 ⟨rfl, hb3⟩)
    go_ret
    exact ⟨rfl, hb3⟩
end Go.Proofs.YtkibkpfjmdibcaaDoor
