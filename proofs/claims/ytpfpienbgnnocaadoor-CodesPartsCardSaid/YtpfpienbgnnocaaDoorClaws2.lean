/- The walks of CodesNext, CodesBack and CodesParts. -/
import Derived.Test.YtpfpienbgnnocaaDoorCvalid
namespace Go.Proofs.YtpfpienbgnnocaaDoor
open Go.RowKit

theorem next_q {s : ByteArray} {p a b : Int} {c : Bool} (w : World) (hs : s.size ≤ 1048576) (hT : UTabs w) (h : nextR s p = (a, b, c)) :
    Calls Tryd.prog 10 #[.string s, .int .i64 p] w fun e w' => e = .returned (.tuple #[.int .i32 a, .int .i64 b, .bool c]) ∧ Below w.heap.size w w' :=
  (next_p s p w hs hT).mono fun e w' ⟨he, hb⟩ => ⟨by rw [he, h]; rfl, hb⟩
theorem rnext_q {s : ByteArray} {p a b : Int} {c : Bool} (w : World) (hs : s.size ≤ 1048576) (h : nextR s p = (a, b, c)) :
    Calls Tryd.prog 11 #[.string s, .int .i64 p] w fun e w' => e = .returned (.tuple #[.int .i32 a, .int .i64 b, .bool c]) ∧ Below w.heap.size w w' :=
  (rnext_p s p w hs).mono fun e w' ⟨he, hb⟩ => ⟨by rw [he, h]; rfl, hb⟩
theorem back_q {s : ByteArray} {p a b : Int} {c : Bool} (w : World) (hs : s.size ≤ 1048576) (hT : UTabs w) (h : backR s p = (a, b, c)) :
    Calls Tryd.prog 12 #[.string s, .int .i64 p] w fun e w' => e = .returned (.tuple #[.int .i32 a, .int .i64 b, .bool c]) ∧ Below w.heap.size w w' :=
  (back_p s p w hs hT).mono fun e w' ⟨he, hb⟩ => ⟨by rw [he, h]; rfl, hb⟩
theorem rback_q {s : ByteArray} {p a b : Int} {c : Bool} (w : World) (hs : s.size ≤ 1048576) (h : backR s p = (a, b, c)) :
    Calls Tryd.prog 13 #[.string s, .int .i64 p] w fun e w' => e = .returned (.tuple #[.int .i32 a, .int .i64 b, .bool c]) ∧ Below w.heap.size w w' :=
  (rback_p s p w hs).mono fun e w' ⟨he, hb⟩ => ⟨by rw [he, h]; rfl, hb⟩

set_option maxHeartbeats 1000000 in
set_option maxRecDepth 100000 in
/-- **limnerlaw01.CodesNext answers true.** -/
theorem lawNext (s : ByteArray) (p : Int) (w : World) (hz : s.size ≤ 9223372036854775807) (hp0 : -9223372036854775808 ≤ p) (hp1 : p ≤ 9223372036854775807) (hU : UTabs w) :
    Calls Tryd.prog 3 #[.string s, .int .i64 p] w fun e w' => e = .returned (.bool true) ∧ Below w.heap.size w w' := by
  have HU := hide hU
  clear hU
  by_cases h : s.size ≤ 300
  · have hs : s.size ≤ 1048576 := by omega
    have HS := hide hs
    clear hs
    go_enter Tryd.func3, Tryd.ntmps3
    go_wp2
    go_loopw [5] (fun k wr => ∃ m : Int, -1 ≤ m ∧ m ≤ (s.size : Int) + 2 ∧ k = .int .i64 m ∧ Below w.heap.size w wr) (fun k _ => ((s.size : Int) + 2 - intOf k).toNat)
    case atStart => exact ⟨-1, by omega, by omega, rfl, Below.refl _ _⟩
    case round =>
      obtain ⟨m, hm0, hm1, rfl, hB⟩ := hrel
      have HB := hide hB
      clear hB
      by_cases hm : m ≤ (s.size : Int) + 1
      · by_cases he : m = (s.size : Int) + 1
        · obtain ⟨⟨n1, n2, n3⟩, hN⟩ : ∃ q, nextR s p = q := ⟨_, rfl⟩
          obtain ⟨⟨b1, b2, b3⟩, hK⟩ : ∃ q, backR s p = q := ⟨_, rfl⟩
          have HN := hide hN
          have HK := hide hK
          clear hN hK
          subst he
          go_wp2_with (first
            | (go_at_call 10; refine (next_q _ HS.out (HU.out.below HB.out) HN.out).mono ?_; rintro e w1 ⟨rfl, hb1⟩; have HB1 := hide (HB.out.trans (hb1.mono HB.out.size)); clear hb1)
            | (go_at_call 11; refine (rnext_q _ HS.out HN.out).mono ?_; rintro e w2 ⟨rfl, hb2⟩; have HB2 := hide (HB1.out.trans (hb2.mono HB1.out.size)); clear hb2)
            | (go_at_call 12; refine (back_q _ HS.out (HU.out.below HB2.out) HK.out).mono ?_; rintro e w3 ⟨rfl, hb3⟩; have HB3 := hide (HB2.out.trans (hb3.mono HB2.out.size)); clear hb3)
            | (go_at_call 13; refine (rback_q _ HS.out HK.out).mono ?_; rintro e w4 ⟨rfl, hb4⟩; have HB4 := hide (HB3.out.trans (hb4.mono HB3.out.size)); clear hb4))
          go_roundw
          case rel => exact ⟨(s.size : Int) + 2, by omega, by omega, by go_num, HB4.out⟩
          case measure => simp [intOf]; omega
        · obtain ⟨⟨n1, n2, n3⟩, hN⟩ : ∃ q, nextR s m = q := ⟨_, rfl⟩
          obtain ⟨⟨b1, b2, b3⟩, hK⟩ : ∃ q, backR s m = q := ⟨_, rfl⟩
          have HN := hide hN
          have HK := hide hK
          clear hN hK
          go_wp2_with (first
            | (go_at_call 10; refine (next_q _ HS.out (HU.out.below HB.out) HN.out).mono ?_; rintro e w1 ⟨rfl, hb1⟩; have HB1 := hide (HB.out.trans (hb1.mono HB.out.size)); clear hb1)
            | (go_at_call 11; refine (rnext_q _ HS.out HN.out).mono ?_; rintro e w2 ⟨rfl, hb2⟩; have HB2 := hide (HB1.out.trans (hb2.mono HB1.out.size)); clear hb2)
            | (go_at_call 12; refine (back_q _ HS.out (HU.out.below HB2.out) HK.out).mono ?_; rintro e w3 ⟨rfl, hb3⟩; have HB3 := hide (HB2.out.trans (hb3.mono HB2.out.size)); clear hb3)
            | (go_at_call 13; refine (rback_q _ HS.out HK.out).mono ?_; rintro e w4 ⟨rfl, hb4⟩; have HB4 := hide (HB3.out.trans (hb4.mono HB3.out.size)); clear hb4))
          go_roundw
          case rel => exact ⟨m + 1, by omega, by omega, by go_num, HB4.out⟩
          case measure => simp [intOf]; omega
      · go_wp2_with (go_at_call 9; refine (read_any _ (HU.out.below HB.out)).mono ?_; rintro e w3 ⟨rfl, hb3⟩)
        go_ret
        exact ⟨rfl, HB.out.trans (hb3.mono HB.out.size)⟩
  · go_enter Tryd.func3, Tryd.ntmps3
    go_wp2_with (go_at_call 9; refine (read_any _ HU.out).mono ?_; rintro e w3 ⟨rfl, hb3⟩)
    go_ret
    exact ⟨rfl, hb3⟩

theorem next_put {r : Int} (hv : (0 ≤ r ∧ r < 55296) ∨ (57344 ≤ r ∧ r ≤ 1114111)) (a b : ByteArray) : nextR (a ++ putS r ++ b) (a.size : Int) = (r, ((putS r).size : Int), true) := by
  obtain ⟨d, k⟩ := put_around hv a b
  obtain ⟨_, _, h1, _⟩ := put_front hv a
  rw [nextR, if_pos (by rw [join_size, join_size]; omega)]
  simp only [Int.toNat_natCast]
  have k' : runeOk (a ++ putS r ++ b) a.size = true := k
  rw [d, k']
  exact Prod.ext (by show ((r.toNat : Nat) : Int) = r; omega) rfl
theorem back_put {r : Int} (hv : (0 ≤ r ∧ r < 55296) ∨ (57344 ≤ r ∧ r ≤ 1114111)) (a b : ByteArray) : backR (a ++ putS r ++ b) ((a.size : Int) + ((putS r).size : Int)) = (r, ((putS r).size : Int), true) := by
  obtain ⟨d, k, h1, _⟩ := put_front hv a
  obtain ⟨he, hl⟩ := put_end hv a b
  rw [backR, if_pos (by rw [join_size, join_size]; omega)]
  rw [show ((a.size : Int) + ((putS r).size : Int)).toNat = a.size + (putS r).size by omega, he, backT, hl, d]
  have k' : runeOk (a ++ putS r) a.size = true := k
  rw [k']
  exact Prod.ext (by show ((r.toNat : Nat) : Int) = r; omega) rfl

set_option maxHeartbeats 1000000 in
theorem back_good (r : Int) (a b : ByteArray) (w : World) (hv : (0 ≤ r ∧ r < 55296) ∨ (57344 ≤ r ∧ r ≤ 1114111)) (ha : a.size ≤ 100) (hb : b.size ≤ 100) (hU : UTabs w) :
    Calls Tryd.prog 6 #[.int .i32 r, .string a, .string b] w fun e w' => e = .returned (.bool true) ∧ Below w.heap.size w w' := by
  have HU := hide hU
  have e1 := next_put hv a b
  have e2 := back_put hv a b
  obtain ⟨_, _, h1, h4⟩ := put_front hv a
  obtain ⟨q, hq⟩ : ∃ q, putS r = q := ⟨_, rfl⟩
  rw [hq] at e1 e2 h1 h4
  have hx0 : (a ++ q ++ b).size ≤ 1048576 := by rw [join_size, join_size]; omega
  obtain ⟨x, hx⟩ : ∃ x, a ++ q ++ b = x := ⟨_, rfl⟩
  rw [hx] at e1 e2 hx0
  have HQ := hide hq
  have HX := hide hx
  have E1 := hide e1
  have E2 := hide e2
  have HX0 := hide hx0
  clear hU e1 e2 hq hx hx0
  rcases hv with ⟨g0, g1⟩ | ⟨g0, g1⟩
  all_goals
    go_enter Tryd.func6, Tryd.ntmps6
    go_wp2_with fail
    refine (cput_any r _).mono ?_; rw [HQ.out]; rintro e w1 ⟨rfl, rfl⟩
    go_wp2_with fail
    rw [HX.out]; refine (next_q _ HX0.out HU.out E1.out).mono ?_; rintro e w2 ⟨rfl, hb2⟩; have B2 := hide hb2; clear hb2
    go_wp2_with fail
    rw [HX.out]; refine (back_q _ HX0.out (HU.out.below B2.out) E2.out).mono ?_; rintro e w3 ⟨rfl, hb3⟩; have B3 := hide (B2.out.trans (hb3.mono B2.out.size)); clear hb3
    go_wp2_with fail
    refine (read_any _ (HU.out.below B3.out)).mono ?_; rintro e w4 ⟨rfl, hb4⟩
    go_wp2
    go_ret
    exact ⟨rfl, B3.out.trans (hb4.mono B3.out.size)⟩

set_option maxHeartbeats 1000000 in
/-- **limnerlaw01.CodesBack answers true.** -/
theorem lawBack (r : Int) (a b : ByteArray) (w : World) (hr0 : -2147483648 ≤ r) (hr1 : r ≤ 2147483647) (ha : a.size ≤ 9223372036854775807) (hb : b.size ≤ 9223372036854775807) (hU : UTabs w) :
    Calls Tryd.prog 6 #[.int .i32 r, .string a, .string b] w fun e w' => e = .returned (.bool true) ∧ Below w.heap.size w w' := by
  have HU := hide hU
  by_cases h1 : a.size ≤ 100
  by_cases h2 : b.size ≤ 100
  by_cases hv : (0 ≤ r ∧ r < 55296) ∨ (57344 ≤ r ∧ r ≤ 1114111)
  · exact back_good r a b w hv h1 h2 hU
  · have HQ := hide (putS_bad (r := r) (by omega))
    clear hU
    have hc : r < 0 ∨ 1114111 < r ∨ (55296 ≤ r ∧ r < 57344) := by omega
    clear hv
    rcases hc with g | g | ⟨g, g2⟩
    all_goals
      go_enter Tryd.func6, Tryd.ntmps6
      go_wp2_with fail
      refine (cput_any r _).mono ?_; rw [HQ.out]; rintro e w1 ⟨rfl, rfl⟩
      go_wp2_with fail
      refine (read_any _ HU.out).mono ?_; rintro e w4 ⟨rfl, hb4⟩
      go_wp2
      go_ret
      exact ⟨rfl, hb4⟩
  all_goals
    clear hU
    go_enter Tryd.func6, Tryd.ntmps6
    go_wp2_with (go_at_call 9; refine (read_any _ HU.out).mono ?_; rintro e w3 ⟨rfl, hb3⟩)
    go_ret
    exact ⟨rfl, hb3⟩
end Go.Proofs.YtpfpienbgnnocaaDoor
