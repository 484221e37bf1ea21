/- Contract of Feed of keys, where no paste goes on. -/
import Derived.Test.YtiilgeinkocanaaDoorKtick
namespace Go.Proofs.YtiilgeinkocanaaDoor
open Go.RowKit

theorem wait_csi (s : ByteArray) : Lib.hasPrefix s.data.toList [27, 91] = decide (2 ≤ s.size ∧ s.extract 0 2 = csiS) := by
  have := Lib.hasPrefix_raw s csiS
  rw [show csiS.data.toList = [27, 91] from rfl, show csiS.size = 2 from rfl] at this
  rw [← this, Bool.eq_iff_iff]
  simp only [Bool.and_eq_true, decide_eq_true_eq]
  rw [str_eqK (l := csiS.toList) (b := decide (s.extract 0 2 = csiS)) (by rw [show (⟨csiS.toList.toArray⟩ : ByteArray) = csiS by rw [ByteArray.toList_eq]])]
  simp
set_option maxRecDepth 100000 in
set_option maxHeartbeats 2000000 in
theorem feed_str (D : Nat) (s : ByteArray) (x : Int) (w : World) (hT : UTabs w) (h0 : 0 ≤ x) (h1 : x ≤ 255) (hs : SafeB D) (hz9 : s.size ≤ 1000000) (h : Blk w D 46 [.iface 9 (.string s)]) :
    Calls Tryd.prog 15 #[.pointer (some ⟨D, 0, none⟩), .int .u8 x] w (SPost D (waitK s x) w) := by
  have e0 := h.cell (i := 0) rfl
  have HD := hide h
  have HT := hide hT
  clear h hT
  by_cases hz : s.size = 0
  · have hs0 := size0 hz
    subst hs0
    have HR := hide (show waitK ⟨#[]⟩ x = stays (firstK x) from first_short rfl x)
    go_enter Tryd.func15, Tryd.ntmps15
    go_wp2_with fail
    refine (none_any D _ _ _ e0).mono ?_
    rintro e w1 ⟨rfl, rfl⟩
    go_wp2_with fail
    refine (first_any D x _ HT.out h0 h1 HD.out).mono ?_
    intro e w2 hp
    have HP := hide hp
    clear hp
    obtain ⟨v, rfl, h5⟩ := HP.out
    go_wp2_with fail
    go_ret
    rw [HR.out]
    exact sp_of ⟨v, rfl, h5⟩
  have e1 : s.toList.isEmpty = false := empty_tl false (by simpa using hz)
  by_cases c1 : s = escS
  · have e2 : (s.toList == [27]) = true := str_eqK (decide_eq_true c1)
    have HR := hide (show waitK s x = stays (escK x) by unfold waitK; rw [if_neg hz, if_pos c1])
    clear c1 hz
    go_enter Tryd.func15, Tryd.ntmps15
    go_wp2_with fail
    refine (none_any D _ _ _ e0).mono ?_
    rintro e w1 ⟨rfl, rfl⟩
    go_wp2_with fail
    refine (escaped_any D _ x _ HT.out h0 h1 hs HD.out).mono ?_
    intro e w2 hp
    have HP := hide hp
    clear hp
    obtain ⟨v, rfl, h5⟩ := HP.out
    go_wp2_with fail
    go_ret
    rw [HR.out]
    exact sp_of ⟨v, rfl, h5⟩
  have e2 : (s.toList == [27]) = false := str_eqK (decide_eq_false c1)
  by_cases c2 : s = ss3S
  · have e3 : (s.toList == [27, 79]) = true := str_eqK (decide_eq_true c2)
    have HR := hide (show waitK s x = stays (thirdK x) by unfold waitK; rw [if_neg hz, if_neg c1, if_pos c2])
    clear c1 c2 hz
    go_enter Tryd.func15, Tryd.ntmps15
    go_wp2_with fail
    refine (none_any D _ _ _ e0).mono ?_
    rintro e w1 ⟨rfl, rfl⟩
    go_wp2_with fail
    refine (third_any D _ x _ HT.out h0 h1 hs HD.out).mono ?_
    intro e w2 hp
    have HP := hide hp
    clear hp
    obtain ⟨v, rfl, h5⟩ := HP.out
    go_wp2_with fail
    go_ret
    rw [HR.out]
    exact sp_of ⟨v, rfl, h5⟩
  have e3 : (s.toList == [27, 79]) = false := str_eqK (decide_eq_false c2)
  have HPX := hide (wait_csi s)
  by_cases c3 : 2 ≤ s.size ∧ s.extract 0 2 = csiS
  · have HR := hide (show waitK s x = seqK s x by unfold waitK; rw [if_neg hz, if_neg c1, if_neg c2, if_pos c3])
    rw [decide_eq_true c3] at HPX
    have hz2 := c3.1
    clear c1 c2 c3 hz
    go_enter Tryd.func15, Tryd.ntmps15
    go_wp2_with fail
    refine (none_any D _ _ _ e0).mono ?_
    rintro e w1 ⟨rfl, rfl⟩
    go_wp2_with fail
    refine (Tryd.strings_HasPrefix s _ _).mono ?_
    rintro e w9 ⟨rfl, hw9⟩
    rw [HPX.out]
    subst hw9
    go_wp2_with fail
    refine (seq_any D _ s x _ HT.out h0 h1 hs hz2 hz9 HD.out).mono ?_
    intro e w2 hp
    have HP := hide hp
    clear hp
    obtain ⟨v, rfl, h5⟩ := HP.out
    go_wp2_with fail
    go_ret
    rw [HR.out]
    exact ⟨v, rfl, h5⟩
  rw [decide_eq_false c3] at HPX
  have hpos : 0 < s.size := by omega
  by_cases c4 : s.get! 0 = 27
  · have HR := hide (show waitK s x = stays (codeK true s (s.extract 1 s.size) x) by unfold waitK; rw [if_neg hz, if_neg c1, if_neg c2, if_neg c3, if_pos c4])
    have HC := hide c4
    clear c1 c2 c3 c4 hz
    go_enter Tryd.func15, Tryd.ntmps15
    go_wp2_with fail
    refine (none_any D _ _ _ e0).mono ?_
    rintro e w1 ⟨rfl, rfl⟩
    go_wp2_with fail
    refine (Tryd.strings_HasPrefix s _ _).mono ?_
    rintro e w9 ⟨rfl, hw9⟩
    rw [HPX.out]
    subst hw9
    go_wp2_with fail
    refine (code_alt D _ s x _ HT.out h0 h1 hs hpos hz9 HC.out HD.out).mono ?_
    intro e w2 hp
    have HP := hide hp
    clear hp
    obtain ⟨v, rfl, h5⟩ := HP.out
    go_wp2_with fail
    go_ret
    rw [HR.out]
    exact sp_of ⟨v, rfl, h5⟩
  · have HR := hide (show waitK s x = stays (codeK false s s x) by unfold waitK; rw [if_neg hz, if_neg c1, if_neg c2, if_neg c3, if_neg c4])
    have HC := hide c4
    clear c1 c2 c3 c4 hz
    go_enter Tryd.func15, Tryd.ntmps15
    go_wp2_with fail
    refine (none_any D _ _ _ e0).mono ?_
    rintro e w1 ⟨rfl, rfl⟩
    go_wp2_with fail
    refine (Tryd.strings_HasPrefix s _ _).mono ?_
    rintro e w9 ⟨rfl, hw9⟩
    rw [HPX.out]
    subst hw9
    go_wp2_with fail
    refine (code_bare D _ s x _ HT.out h0 h1 hs hpos hz9 HC.out HD.out).mono ?_
    intro e w2 hp
    have HP := hide hp
    clear hp
    obtain ⟨v, rfl, h5⟩ := HP.out
    go_wp2_with fail
    go_ret
    rw [HR.out]
    exact sp_of ⟨v, rfl, h5⟩
end Go.Proofs.YtiilgeinkocanaaDoor
