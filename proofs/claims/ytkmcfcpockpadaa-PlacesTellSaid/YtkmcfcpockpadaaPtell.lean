/- The walks of limnerlaw04.PlacesTell and PlacesBack. -/
import Derived.Test.YtkmcfcpockpadaaPlaw
namespace Go.Proofs.Ytkmcfcpockpadaa
open Go.RowKit

theorem lineV_form (s : ByteArray) (a : Int) : ∃ (x y : Int) (b : Bool), lineV s a = .tuple #[.int .i64 x, .int .i64 y, .bool b] := by
  unfold lineV; split
  · exact ⟨_, _, _, rfl⟩
  · exact ⟨_, _, _, rfl⟩
set_option maxHeartbeats 4000000 in
set_option maxRecDepth 100000 in
theorem PlacesTell_any (s : ByteArray) (n m : Int) (w : World) (hz : s.size ≤ 9223372036854775807) (hn : -9223372036854775808 ≤ n ∧ n ≤ 9223372036854775807) (hm : -9223372036854775808 ≤ m ∧ m ≤ 9223372036854775807) : Calls Try.prog 3 #[.string s, .int .i64 n, .int .i64 m] w fun e w' => e = .returned (.bool true) ∧ Below w.heap.size w w' := by
  by_cases hsm : 300 < s.size
  · go_enter Try.func3, Try.ntmps3
    go_wp2_with fail
    refine (placed_any w).mono ?_; rintro e w1 ⟨rfl, hb1⟩
    go_wp2
    go_ret
    exact ⟨rfl, hb1⟩
  have hs : s.size ≤ 1048576 := by omega
  have hs3 : s.size ≤ 300 := by omega
  obtain ⟨hn1, hn2⟩ := hn
  obtain ⟨hm1, hm2⟩ := hm
  go_enter Try.func3, Try.ntmps3
  go_wp2_with fail
  go_loopw [7] (fun i wr => ∃ k : Int, -1 ≤ k ∧ k ≤ s.size + 3 ∧ i = .int .i64 k ∧ Hid (Below w.heap.size w wr)) (fun i _ => (s.size + 3 - intOf i).toNat)
  case atStart => exact ⟨-1, by omega, by omega, rfl, hide (Below.refl _ _)⟩
  case round =>
    obtain ⟨k, hk0, hk1, rfl, HB⟩ := hrel
    by_cases hlt : k ≤ s.size + 2
    · by_cases hke : k = s.size + 2
      all_goals
        first
        | (have hke' : k = (s.size : Int) + 2 := hke
           subst hke'
           obtain ⟨x, y, b, hl⟩ := lineV_form s n
           have HL := hide hl
           clear hl hke)
        | (have hkf : (k == (s.size : Int) + 2) = false := by simpa using hke
           obtain ⟨x, y, b, hl⟩ := lineV_form s k
           have HL := hide hl
           clear hl hke)
        go_wp2_with (first
          | (go_at_call 8; refine (line_any s _ _ hs).mono ?_; rw [HL.out]; rintro e w' ⟨rfl, rfl⟩)
          | (go_at_call 9; refine (rline_any s _ _ hs).mono ?_; rw [HL.out]; rintro e w' ⟨rfl, rfl⟩)
          | (go_at_call 10; refine (first_any s _ _ hs (by omega) (by omega)).mono ?_; rintro e w1 ⟨rfl, hb1⟩; replace HB := hide (HB.out.trans (hb1.mono HB.out.size)); clear hb1)
          | (go_at_call 11; refine (rfirst_any s _ _ hs (by omega)).mono ?_; rintro e w' ⟨rfl, rfl⟩)
          | (go_at_call 12; refine (at_any s _ _ _ hs (by omega) (by omega)).mono ?_; rintro e w1 ⟨rfl, hb1⟩; replace HB := hide (HB.out.trans (hb1.mono HB.out.size)); clear hb1)
          | (go_at_call 13; refine (rat_any s _ _ _ hs (by omega)).mono ?_; rintro e w' ⟨rfl, rfl⟩)
          | (go_at_call 14; refine (start_any s _ _ hs).mono ?_; rintro e w' ⟨rfl, rfl⟩)
          | (go_at_call 15; refine (rstart_any s _ _ hs).mono ?_; rintro e w' ⟨rfl, rfl⟩)
          | (go_at_call 16; refine (end_any s _ _ hs).mono ?_; rintro e w' ⟨rfl, rfl⟩)
          | (go_at_call 17; refine (rend_any s _ _ hs).mono ?_; rintro e w' ⟨rfl, rfl⟩)
          | (go_at_call 18; refine (runes_any s _ _ hs).mono ?_; rintro e w1 ⟨rfl, hb1⟩; replace HB := hide (HB.out.trans (hb1.mono HB.out.size)); clear hb1)
          | (go_at_call 19; refine (rrunes_any s _ _ hs).mono ?_; rintro e w1 ⟨rfl, hb1⟩; replace HB := hide (HB.out.trans (hb1.mono HB.out.size)); clear hb1)
          | (go_at_call 20; refine (place_any s _ _ hs).mono ?_; rintro e w1 ⟨rfl, hb1⟩; replace HB := hide (HB.out.trans (hb1.mono HB.out.size)); clear hb1)
          | (go_at_call 21; refine (rplace_any s _ _ hs).mono ?_; rintro e w1 ⟨rfl, hb1⟩; replace HB := hide (HB.out.trans (hb1.mono HB.out.size)); clear hb1))
        go_roundw
        case rel => exact ⟨_, by omega, by omega, rfl, HB⟩
        case measure => simp [intOf]; omega
    · go_wp2_with fail
      refine (placed_any _).mono ?_; rintro e w1 ⟨rfl, hb1⟩
      have HB2 := hide (HB.out.trans (hb1.mono HB.out.size))
      clear hb1
      go_wp2
      go_ret
      exact ⟨rfl, HB2.out⟩
end Go.Proofs.Ytkmcfcpockpadaa
