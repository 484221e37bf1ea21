/- The walks of the six laws of Codes. -/
import Derived.Test.YtpfpienbgnnocaaDoorCvalid
namespace Go.Proofs.YtpfpienbgnnocaaDoor
open Go.RowKit

set_option maxHeartbeats 1000000 in
/-- **limnerlaw01.CodesPut answers true.** -/
theorem lawPut (r : Int) (w : World) (hr0 : -2147483648 ≤ r) (hr1 : r ≤ 2147483647) (hU : UTabs w) : Calls Tryd.prog 5 #[.int .i32 r] w fun e w' => e = .returned (.bool true) ∧ Below w.heap.size w w' := by
  have HU := hide hU
  clear hU
  go_enter Tryd.func5, Tryd.ntmps5
  go_wp2_with (first
    | (go_at_call 20; refine (cput_any r _).mono ?_; rintro e w1 ⟨rfl, rfl⟩)
    | (go_at_call 21; refine (put_any r _).mono ?_; rintro e w2 ⟨rfl, hb2⟩; have HB2 := hide hb2; clear hb2)
    | (go_at_call 9; refine (read_any _ (HU.out.below HB2.out)).mono ?_; rintro e w3 ⟨rfl, hb3⟩))
  go_ret
  exact ⟨rfl, HB2.out.trans (hb3.mono HB2.out.size)⟩

set_option maxHeartbeats 1000000 in
/-- **limnerlaw01.CodesJoin answers true.** -/
theorem lawJoin (a b : ByteArray) (w : World) (ha : a.size ≤ 9223372036854775807) (hb : b.size ≤ 9223372036854775807) (hU : UTabs w) :
    Calls Tryd.prog 8 #[.string a, .string b] w fun e w' => e = .returned (.bool true) ∧ Below w.heap.size w w' := by
  have HU := hide hU
  clear hU
  by_cases h1 : a.size ≤ 500
  by_cases h2 : b.size ≤ 500
  · cases hv : validS a
    · have HV := hide hv
      clear hv
      go_enter Tryd.func8, Tryd.ntmps8
      go_wp2_with (first
        | (go_at_call 18; refine (valid_any a _ ha HU.out).mono ?_; rw [HV.out]; rintro e w1 ⟨rfl, hb1⟩; have HB1 := hide hb1; clear hb1)
        | (go_at_call 9; refine (read_any _ (HU.out.below HB1.out)).mono ?_; rintro e w3 ⟨rfl, hb3⟩))
      go_ret
      exact ⟨rfl, HB1.out.trans (hb3.mono HB1.out.size)⟩
    · obtain ⟨C, hC⟩ : ∃ C : Nat, Lib.runeCount a = C := ⟨_, rfl⟩
      obtain ⟨D, hD⟩ : ∃ D : Nat, Lib.runeCount b = D := ⟨_, rfl⟩
      obtain ⟨V, hV⟩ : ∃ V, validS b = V := ⟨_, rfl⟩
      have c1 : C ≤ 500 := by rw [← hC, count_starts]; have := starts_len a; omega
      have c2 : D ≤ 500 := by rw [← hD, count_starts]; have := starts_len b; omega
      have e1 := count_join (b := b) hv
      have e2 := count_behind (b := b) hv
      have e3 := valid_join (b := b) hv
      have e4 := valid_behind (b := b) hv
      have z1 := join_size a b
      have z2 := join_size b a
      rw [hC, hD] at e1 e2
      rw [hV] at e3 e4
      obtain ⟨x, hx⟩ : ∃ x, a ++ b = x := ⟨_, rfl⟩
      obtain ⟨y, hy⟩ : ∃ y, b ++ a = y := ⟨_, rfl⟩
      rw [hx] at e1 e3 z1
      rw [hy] at e2 e4 z2
      have HV := hide hv
      have HC := hide hC
      have HD := hide hD
      have HVV := hide hV
      have E1 := hide e1
      have E2 := hide e2
      have E3 := hide e3
      have E4 := hide e4
      have HX := hide hx
      have HY := hide hy
      clear hv hC hD hV e1 e2 e3 e4 hx hy
      go_enter Tryd.func8, Tryd.ntmps8
      go_wp2_with fail
      refine (valid_any a _ ha HU.out).mono ?_; rw [HV.out]; rintro e w1 ⟨rfl, hb1⟩; have B1 := hide hb1; clear hb1
      go_wp2_with fail
      rw [HX.out]; refine (count_any x _ (by omega)).mono ?_; rw [E1.out]; rintro e w2 ⟨rfl, hb2⟩; have B2 := hide (B1.out.trans (hb2.mono B1.out.size)); clear hb2
      go_wp2_with fail
      refine (count_any a _ (by omega)).mono ?_; rw [HC.out]; rintro e w3 ⟨rfl, hb3⟩; have B3 := hide (B2.out.trans (hb3.mono B2.out.size)); clear hb3
      go_wp2_with fail
      refine (count_any b _ (by omega)).mono ?_; rw [HD.out]; rintro e w4 ⟨rfl, hb4⟩; have B4 := hide (B3.out.trans (hb4.mono B3.out.size)); clear hb4
      go_wp2_with fail
      rw [HY.out]; refine (count_any y _ (by omega)).mono ?_; rw [E2.out]; rintro e w5 ⟨rfl, hb5⟩; have B5 := hide (B4.out.trans (hb5.mono B4.out.size)); clear hb5
      go_wp2_with fail
      refine (count_any a _ (by omega)).mono ?_; rw [HC.out]; rintro e w6 ⟨rfl, hb6⟩; have B6 := hide (B5.out.trans (hb6.mono B5.out.size)); clear hb6
      go_wp2_with fail
      refine (count_any b _ (by omega)).mono ?_; rw [HD.out]; rintro e w7 ⟨rfl, hb7⟩; have B7 := hide (B6.out.trans (hb7.mono B6.out.size)); clear hb7
      go_wp2_with fail
      rw [HX.out]; refine (valid_any x _ (by omega) (HU.out.below B7.out)).mono ?_; rw [E3.out]; rintro e w8 ⟨rfl, hb8⟩; have B8 := hide (B7.out.trans (hb8.mono B7.out.size)); clear hb8
      go_wp2_with fail
      refine (valid_any b _ (by omega) (HU.out.below B8.out)).mono ?_; rw [HVV.out]; rintro e w9 ⟨rfl, hb9⟩; have B9 := hide (B8.out.trans (hb9.mono B8.out.size)); clear hb9
      go_wp2_with fail
      rw [HY.out]; refine (valid_any y _ (by omega) (HU.out.below B9.out)).mono ?_; rw [E4.out]; rintro e w10 ⟨rfl, hb10⟩; have B10 := hide (B9.out.trans (hb10.mono B9.out.size)); clear hb10
      go_wp2_with fail
      refine (valid_any b _ (by omega) (HU.out.below B10.out)).mono ?_; rw [HVV.out]; rintro e w11 ⟨rfl, hb11⟩; have B11 := hide (B10.out.trans (hb11.mono B10.out.size)); clear hb11
      go_wp2_with fail
      refine (read_any _ (HU.out.below B11.out)).mono ?_; rintro e w12 ⟨rfl, hb12⟩
      go_wp2
      go_ret
      exact ⟨rfl, B11.out.trans (hb12.mono B11.out.size)⟩
  all_goals
    go_enter Tryd.func8, Tryd.ntmps8
    go_wp2_with (go_at_call 9; refine (read_any _ HU.out).mono ?_; rintro e w3 ⟨rfl, hb3⟩)
    go_ret
    exact ⟨rfl, hb3⟩

set_option maxHeartbeats 1000000 in
/-- **limnerlaw01.CodesList answers true.** -/
theorem lawList (s : ByteArray) (w : World) (hz : s.size ≤ 9223372036854775807) (hU : UTabs w) :
    Calls Tryd.prog 4 #[.string s] w fun e w' => e = .returned (.bool true) ∧ Below w.heap.size w w' := by
  have HU := hide hU
  clear hU
  by_cases h : s.size ≤ 3000
  · obtain ⟨V, hV⟩ : ∃ V, validS s = V := ⟨_, rfl⟩
    have HC := hide (count_starts s)
    have HV := hide hV
    have hl := starts_len s
    clear hV
    go_enter Tryd.func4, Tryd.ntmps4
    go_wp2_with fail
    refine (starts_any s _ (by omega)).mono ?_; rintro e w1 ⟨A, c, rfl, hown, hb1⟩; have B1 := hide hb1; have HN1 := hide (NatsAt.of_own hown); clear hb1 hown
    go_wp2_with fail
    refine (cstarts_any s _ (by omega)).mono ?_; rintro e w2 ⟨A', c', rfl, hown, hb2⟩; have B2 := hide (B1.out.trans (hb2.mono B1.out.size)); have HN2 := hide (NatsAt.of_own hown); have HN12 := hide (HN1.out.below hb2); clear hb2 hown
    generalize starts s = L at *
    go_wp2_with fail
    refine (ints_same A' A c' c L _ (by omega) HN2.out HN12.out).mono ?_; rintro e w3 ⟨rfl, hb3⟩; have B3 := hide (B2.out.trans (hb3.mono B2.out.size)); clear hb3
    go_wp2_with fail
    refine (count_any s _ (by omega)).mono ?_; rw [HC.out]; rintro e w4 ⟨rfl, hb4⟩; have B4 := hide (B3.out.trans (hb4.mono B3.out.size)); clear hb4
    go_wp2_with fail
    refine (valid_any s _ hz (HU.out.below B4.out)).mono ?_; rw [HV.out]; rintro e w5 ⟨rfl, hb5⟩; have B5 := hide (B4.out.trans (hb5.mono B4.out.size)); clear hb5
    go_wp2_with fail
    refine (rvalid_any s _ (by omega)).mono ?_; rw [HV.out]; rintro e w6 ⟨rfl, hb6⟩; have B6 := hide (B5.out.trans (hb6.mono B5.out.size)); clear hb6
    go_wp2_with fail
    refine (read_any _ (HU.out.below B6.out)).mono ?_; rintro e w7 ⟨rfl, hb7⟩
    go_wp2
    go_ret
    exact ⟨rfl, B6.out.trans (hb7.mono B6.out.size)⟩
  · go_enter Tryd.func4, Tryd.ntmps4
    go_wp2_with (go_at_call 9; refine (read_any _ HU.out).mono ?_; rintro e w3 ⟨rfl, hb3⟩)
    go_ret
    exact ⟨rfl, hb3⟩
end Go.Proofs.YtpfpienbgnnocaaDoor
