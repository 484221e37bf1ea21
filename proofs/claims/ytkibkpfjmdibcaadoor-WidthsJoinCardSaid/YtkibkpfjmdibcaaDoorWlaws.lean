/- The walks of WidthsOf, WidthsText, WidthsTab and WidthsShown. -/
import Derived.Test.YtkibkpfjmdibcaaDoorWide
import Derived.Test.YtkibkpfjmdibcaaDoorWrtext
import Derived.Test.YtkibkpfjmdibcaaDoorUtf2
namespace Go.Proofs.YtkibkpfjmdibcaaDoor
open Go.RowKit

set_option maxHeartbeats 1000000 in
/-- **limnerlaw02.WidthsText answers true.** -/
theorem lawText (s : ByteArray) (w : World) (hz : s.size ≤ 9223372036854775807) (hW : WTabs w) (hU : UTabs w) :
    Calls Tryd.prog 4 #[.string s] w fun e w' => e = .returned (.bool true) ∧ Below w.heap.size w w' := by
  have HW := hide hW
  have HU := hide hU
  clear hW hU
  by_cases h : s.size ≤ 2000
  · go_enter Tryd.func4, Tryd.ntmps4
    go_wp2_with (first
      | (go_at_call 15; refine (text_any s _ (by omega) HW.out HU.out).mono ?_; rintro e w1 ⟨rfl, hb1⟩)
      | (go_at_call 16; refine (rtext_any s _ (by omega)).mono ?_; rintro e w2 ⟨rfl, hb2⟩; have HB2 := hide (hb1.trans (hb2.mono hb1.size)))
      | (go_at_call 14; refine (wide_any _ (HW.out.below HB2.out) (HU.out.below HB2.out)).mono ?_; rintro e w3 ⟨rfl, hb3⟩))
    go_ret
    exact ⟨rfl, HB2.out.trans (hb3.mono HB2.out.size)⟩
  · go_enter Tryd.func4, Tryd.ntmps4
    go_wp2_with (go_at_call 14; refine (wide_any _ HW.out HU.out).mono ?_; rintro e w3 ⟨rfl, hb3⟩)
    go_ret
    exact ⟨rfl, hb3⟩

theorem tabs_facts {k : Int} (h : 0 ≤ k) : 1 ≤ tabs k ∧ tabs k ≤ 8 ∧ (k + tabs k) % 8 = 0 := by
  unfold tabs; rw [if_neg (by omega)]; omega

set_option maxHeartbeats 1000000 in
/-- **limnerlaw02.WidthsTab answers true.** -/
theorem lawTab (k : Int) (w : World) (h0 : 0 ≤ k) (h1 : k ≤ 65535) (hW : WTabs w) (hU : UTabs w) :
    Calls Tryd.prog 5 #[.int .u16 k] w fun e w' => e = .returned (.bool true) ∧ Below w.heap.size w w' := by
  have HW := hide hW
  have HU := hide hU
  obtain ⟨f1, f2, f3⟩ := tabs_facts h0
  obtain ⟨t, ht⟩ : ∃ t, tabs k = t := ⟨_, rfl⟩
  rw [ht] at f1 f2 f3
  have HT := hide ht
  clear hW hU ht
  go_enter Tryd.func5, Tryd.ntmps5
  go_wp2_with (first
    | (go_at_call 12; refine (wtab_any _ _).mono ?_; rw [HT.out]; rintro e w1 ⟨rfl, rfl⟩)
    | (go_at_call 14; refine (wide_any _ HW.out HU.out).mono ?_; rintro e w3 ⟨rfl, hb3⟩))
  go_ret
  exact ⟨rfl, hb3⟩

set_option maxHeartbeats 1000000 in
/-- **limnerlaw02.WidthsOf answers true.** -/
theorem lawOf (r c : Int) (w : World) (hr0 : -2147483648 ≤ r) (hr1 : r ≤ 2147483647) (hW : WTabs w) (hU : UTabs w) :
    Calls Tryd.prog 3 #[.int .i32 r, .int .i64 c] w fun e w' => e = .returned (.bool true) ∧ Below w.heap.size w w' := by
  have HW := hide hW
  have HU := hide hU
  clear hW hU
  go_enter Tryd.func3, Tryd.ntmps3
  go_wp2
  go_loopw [5] (fun k wr => ∃ m : Int, -1 ≤ m ∧ m ≤ 2 ∧ k = .int .i64 m ∧ Below w.heap.size w wr) (fun k _ => (2 - intOf k).toNat)
  case atStart => exact ⟨-1, by omega, by omega, rfl, Below.refl _ _⟩
  case round =>
    obtain ⟨m, hm0, hm1, rfl, hB⟩ := hrel
    have HB := hide hB
    clear hB
    by_cases hm : m ≤ 1
    · go_wp2_with (first
        | (go_at_call 8; refine (wof_any _ _ (HW.out.below HB.out)).mono ?_; rintro e w1 ⟨rfl, hb1⟩; have HB1 := hide (HB.out.trans (hb1.mono HB.out.size)); clear hb1)
        | (go_at_call 9; refine (rof_any _ _).mono ?_; rintro e w2 ⟨rfl, hb2⟩; have HB2 := hide (HB1.out.trans (hb2.mono HB1.out.size)); clear hb2)
        | (go_at_call 10; refine (wshown_any _ _ (HW.out.below HB2.out)).mono ?_; rintro e w3 ⟨rfl, hb3⟩; have HB3 := hide (HB2.out.trans (hb3.mono HB2.out.size)); clear hb3)
        | (go_at_call 11; refine (rshown_any _ _).mono ?_; rintro e w4 ⟨rfl, hb4⟩; have HB4 := hide (HB3.out.trans (hb4.mono HB3.out.size)); clear hb4))
      all_goals
        go_roundw
        case rel => exact ⟨m + 1, by omega, by omega, rfl, HB4.out⟩
        case measure => simp [intOf]; omega
    · go_wp2_with (first
        | (go_at_call 12; refine (wtab_any _ _).mono ?_; rintro e w1 ⟨rfl, rfl⟩)
        | (go_at_call 13; refine (rtab_any _ _).mono ?_; rintro e w1 ⟨rfl, rfl⟩)
        | (go_at_call 14; refine (wide_any _ (HW.out.below HB.out) (HU.out.below HB.out)).mono ?_; rintro e w3 ⟨rfl, hb3⟩))
      go_ret
      exact ⟨rfl, HB.out.trans (hb3.mono HB.out.size)⟩

/-- codes.Put. -/
theorem put_codes (r : Int) (w : World) : Calls Tryd.prog 17 #[.int .i32 r] w fun e w' => e = .returned (.string (putS r)) ∧ w = w' := by
  have hv : Utf8.valid r = Lib.validRune r := by
    rw [Bool.eq_iff_iff]
    simp only [Utf8.valid, Lib.validRune, Bool.or_eq_true, Bool.and_eq_true, decide_eq_true_eq]
    omega
  cases h : Lib.validRune r
  · have H := hide h
    have HP := hide (show putS r = ⟨#[]⟩ by rw [putS, hv, h]; rfl)
    clear h hv
    go_enter Tryd.func17, Tryd.ntmps17
    go_wp2_with (go_at_call 26; refine (Tryd.utf8_ValidRune r _).mono ?_; rw [H.out]; rintro e w1 ⟨rfl, rfl⟩)
    go_ret
    exact ⟨ret_str HP.out.symm, rfl⟩
  · have H := hide h
    have HP := hide (show putS r = Utf8.encode r by rw [putS, hv, h]; rfl)
    clear h hv
    go_enter Tryd.func17, Tryd.ntmps17
    go_wp2_with (go_at_call 26; refine (Tryd.utf8_ValidRune r _).mono ?_; rw [H.out]; rintro e w1 ⟨rfl, rfl⟩)
    go_ret
    exact ⟨ret_str HP.out.symm, rfl⟩

theorem cells_fffd : cells 65533 = 1 := by decide
theorem shown_facts (r : Int) : shown (shown r) = shown r ∧ 1 ≤ cells (shown r) ∧ cells (shown r) ≤ 2 ∧ (0 < cells r → shown r = r) ∧ (cells r = 0 → shown r = 65533) := by
  have hb := cells_bd r
  by_cases h : cells r = 0
  · have e : shown r = 65533 := by rw [shown, if_pos h]
    rw [e, cells_fffd]
    refine ⟨by decide, by omega, by omega, fun h' => by omega, fun _ => rfl⟩
  · have e : shown r = r := by rw [shown, if_neg h]
    rw [e]
    exact ⟨e, by omega, by omega, fun _ => rfl, fun h' => absurd h' h⟩
theorem valid_cases (r : Int) : (putS r = ⟨#[]⟩ ∧ cells r = 0) ∨ ((0 ≤ r ∧ r < 55296) ∨ (57344 ≤ r ∧ r ≤ 1114111)) := by
  by_cases h : (r < 0 ∨ 1114111 < r ∨ (55296 ≤ r ∧ r ≤ 57343))
  · exact .inl ⟨putS_bad h, by rw [cells_ref, if_pos (.inl h)]⟩
  · right; omega
theorem text_put {r : Int} (hv : (0 ≤ r ∧ r < 55296) ∨ (57344 ≤ r ∧ r ≤ 1114111)) : textW (putS r) = cells (shown r) ∧ 1 ≤ (putS r).size ∧ (putS r).size ≤ 4 := by
  obtain ⟨hd, h1, h4⟩ := decode_alone hv
  refine ⟨?_, h1, h4⟩
  unfold textW
  obtain ⟨f, hf⟩ : ∃ f, (putS r).size = f + 1 := ⟨(putS r).size - 1, by omega⟩
  rw [hf, textFrom_go (by omega), hd, textFrom_end (by omega), Int.add_zero]
  rw [show ((r.toNat : Nat) : Int) = r by omega]

set_option maxRecDepth 100000 in
set_option maxHeartbeats 1000000 in
/-- **limnerlaw02.WidthsShown answers true.** -/
theorem lawShown (r : Int) (w : World) (hW : WTabs w) (hU : UTabs w) :
    Calls Tryd.prog 6 #[.int .i32 r] w fun e w' => e = .returned (.bool true) ∧ Below w.heap.size w w' := by
  have HW := hide hW
  have HU := hide hU
  obtain ⟨f1, f2, f3, f4, f5⟩ := shown_facts r
  have hb := cells_bd r
  obtain ⟨s, hs⟩ : ∃ s, shown r = s := ⟨_, rfl⟩
  obtain ⟨n, hn⟩ : ∃ n, cells r = n := ⟨_, rfl⟩
  obtain ⟨m, hm⟩ : ∃ m, cells s = m := ⟨_, rfl⟩
  obtain ⟨t, ht⟩ : ∃ t, putS r = t := ⟨_, rfl⟩
  have hc := valid_cases r
  rw [ht, hn] at hc
  rw [hs] at f1 f2 f3 f4 f5
  rw [hm] at f2 f3
  rw [hn] at f4 f5 hb
  have HS := hide hs
  have HN := hide hn
  have HM := hide hm
  have HT := hide ht
  have HSS := hide f1
  obtain ⟨hb0, hb2⟩ := hb
  have hs2 := hs
  clear hW hU hs hn hm f1
  rcases hc with ⟨rfl, rfl⟩ | hv
  · obtain rfl := f5 rfl
    clear f4 f5 ht hs2
    go_enter Tryd.func6, Tryd.ntmps6
    go_wp2_with fail
    refine (wshown_any r _ HW.out).mono ?_
    rw [HS.out]
    rintro e w1 ⟨rfl, hb1⟩
    go_wp2_with fail
    refine (wof_any r _ (HW.out.below hb1)).mono ?_
    rw [HN.out]
    rintro e w2 ⟨rfl, hbb⟩
    have B2 := hide (hb1.trans (hbb.mono hb1.size))
    clear hb1 hbb
    go_wp2_with fail
    refine (wshown_any 65533 _ (HW.out.below B2.out)).mono ?_
    rw [HSS.out]
    rintro e w3 ⟨rfl, hbb⟩
    have B3 := hide (B2.out.trans (hbb.mono B2.out.size))
    clear hbb
    go_wp2_with fail
    refine (wof_any 65533 _ (HW.out.below B3.out)).mono ?_
    rw [HM.out]
    rintro e w4 ⟨rfl, hbb⟩
    have B4 := hide (B3.out.trans (hbb.mono B3.out.size))
    clear hbb
    go_wp2_with fail
    refine (wof_any 65533 _ (HW.out.below B4.out)).mono ?_
    rw [HM.out]
    rintro e w5 ⟨rfl, hbb⟩
    have B5 := hide (B4.out.trans (hbb.mono B4.out.size))
    clear hbb
    go_wp2_with fail
    refine (put_codes r _).mono ?_
    rw [HT.out]
    rintro e w' ⟨rfl, rfl⟩
    go_wp2_with fail
    refine (wide_any _ (HW.out.below B5.out) (HU.out.below B5.out)).mono ?_
    rintro e wl ⟨rfl, hbb⟩
    go_wp2_with fail
    go_ret
    exact ⟨rfl, B5.out.trans (hbb.mono B5.out.size)⟩
  · obtain ⟨hx1, hx2, hx3⟩ := text_put hv
    rw [hs2] at hx1
    have hte : t.toList.isEmpty = false := by
      rw [← ht, ByteArray.toList_eq]
      have : (putS r).data.toList.length = (putS r).size := Array.length_toList
      cases hq : (putS r).data.toList with
      | nil => rw [hq] at this; simp at this; omega
      | cons _ _ => rfl
    rw [ht] at hx1 hx2 hx3
    rw [HM.out] at hx1
    have HX := hide hx1
    clear ht hs2 hv hx1
    by_cases h0 : n = 0
    · subst h0
      obtain rfl := f5 rfl
      clear f4 f5
      go_enter Tryd.func6, Tryd.ntmps6
      go_wp2_with fail
      refine (wshown_any r _ HW.out).mono ?_
      rw [HS.out]
      rintro e w1 ⟨rfl, hb1⟩
      go_wp2_with fail
      refine (wof_any r _ (HW.out.below hb1)).mono ?_
      rw [HN.out]
      rintro e w2 ⟨rfl, hbb⟩
      have B2 := hide (hb1.trans (hbb.mono hb1.size))
      clear hb1 hbb
      go_wp2_with fail
      refine (wshown_any 65533 _ (HW.out.below B2.out)).mono ?_
      rw [HSS.out]
      rintro e w3 ⟨rfl, hbb⟩
      have B3 := hide (B2.out.trans (hbb.mono B2.out.size))
      clear hbb
      go_wp2_with fail
      refine (wof_any 65533 _ (HW.out.below B3.out)).mono ?_
      rw [HM.out]
      rintro e w4 ⟨rfl, hbb⟩
      have B4 := hide (B3.out.trans (hbb.mono B3.out.size))
      clear hbb
      go_wp2_with fail
      refine (wof_any 65533 _ (HW.out.below B4.out)).mono ?_
      rw [HM.out]
      rintro e w5 ⟨rfl, hbb⟩
      have B5 := hide (B4.out.trans (hbb.mono B4.out.size))
      clear hbb
      go_wp2_with fail
      refine (put_codes r _).mono ?_
      rw [HT.out]
      rintro e w' ⟨rfl, rfl⟩
      go_wp2_with fail
      refine (text_any t _ (by omega) (HW.out.below B5.out) (HU.out.below B5.out)).mono ?_
      rw [HX.out]
      rintro e w6 ⟨rfl, hbb⟩
      have B6 := hide (B5.out.trans (hbb.mono B5.out.size))
      clear hbb
      go_wp2_with fail
      refine (wof_any 65533 _ (HW.out.below B6.out)).mono ?_
      rw [HM.out]
      rintro e w7 ⟨rfl, hbb⟩
      have B7 := hide (B6.out.trans (hbb.mono B6.out.size))
      clear hbb
      go_wp2_with fail
      refine (wide_any _ (HW.out.below B7.out) (HU.out.below B7.out)).mono ?_
      rintro e w8 ⟨rfl, hbb⟩
      have B8 := hide (B7.out.trans (hbb.mono B7.out.size))
      clear hbb
      go_wp2_with fail
      go_ret
      exact ⟨rfl, B8.out⟩
    · obtain rfl := f4 (by omega)
      clear f4 f5
      have hnp : 1 ≤ n := by omega
      clear h0
      go_enter Tryd.func6, Tryd.ntmps6
      go_wp2_with fail
      refine (wshown_any s _ HW.out).mono ?_
      rw [HS.out]
      rintro e w1 ⟨rfl, hb1⟩
      go_wp2_with fail
      refine (wof_any s _ (HW.out.below hb1)).mono ?_
      rw [HN.out]
      rintro e w2 ⟨rfl, hbb⟩
      have B2 := hide (hb1.trans (hbb.mono hb1.size))
      clear hb1 hbb
      go_wp2_with fail
      refine (wshown_any s _ (HW.out.below B2.out)).mono ?_
      rw [HSS.out]
      rintro e w3 ⟨rfl, hbb⟩
      have B3 := hide (B2.out.trans (hbb.mono B2.out.size))
      clear hbb
      go_wp2_with fail
      refine (wof_any s _ (HW.out.below B3.out)).mono ?_
      rw [HM.out]
      rintro e w4 ⟨rfl, hbb⟩
      have B4 := hide (B3.out.trans (hbb.mono B3.out.size))
      clear hbb
      go_wp2_with fail
      refine (wof_any s _ (HW.out.below B4.out)).mono ?_
      rw [HM.out]
      rintro e w5 ⟨rfl, hbb⟩
      have B5 := hide (B4.out.trans (hbb.mono B4.out.size))
      clear hbb
      go_wp2_with fail
      refine (put_codes s _).mono ?_
      rw [HT.out]
      rintro e w' ⟨rfl, rfl⟩
      go_wp2_with fail
      refine (text_any t _ (by omega) (HW.out.below B5.out) (HU.out.below B5.out)).mono ?_
      rw [HX.out]
      rintro e w6 ⟨rfl, hbb⟩
      have B6 := hide (B5.out.trans (hbb.mono B5.out.size))
      clear hbb
      go_wp2_with fail
      refine (wof_any s _ (HW.out.below B6.out)).mono ?_
      rw [HM.out]
      rintro e w7 ⟨rfl, hbb⟩
      have B7 := hide (B6.out.trans (hbb.mono B6.out.size))
      clear hbb
      go_wp2_with fail
      refine (wide_any _ (HW.out.below B7.out) (HU.out.below B7.out)).mono ?_
      rintro e w8 ⟨rfl, hbb⟩
      have B8 := hide (B7.out.trans (hbb.mono B7.out.size))
      clear hbb
      go_wp2_with fail
      go_ret
      exact ⟨rfl, B8.out⟩
end Go.Proofs.YtkibkpfjmdibcaaDoor
