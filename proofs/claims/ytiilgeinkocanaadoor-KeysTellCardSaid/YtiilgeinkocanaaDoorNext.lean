/- Contract of limnerref01.Next. -/
import Derived.Test.YtiilgeinkocanaaDoorPut
import Derived.Test.YtiilgeinkocanaaDoorBegin
import Derived.Laws.BitsAllLaws
import Derived.WideShapes
import Derived.Lib.RuneCount
namespace Go.Proofs.YtiilgeinkocanaaDoor
open Go.RowKit

theorem and63 (b : UInt8) : bits .and .u8 (b.toNat : Int) 63 = ((b.toNat % 64 : Nat) : Int) := by
  have := u8_and_nat b.toNat 63 b.toNat_lt (by omega)
  rw [show ((63 : Nat) : Int) = 63 from rfl] at this
  rw [this, show (63 : Nat) = 2 ^ 6 - 1 from rfl, Nat.and_two_pow_sub_one_eq_mod]
theorem begin_x (c : Int) (w : World) (h0 : 0 ≤ c) (h1 : c ≤ 255) :
    Calls Tryd.prog 56 #[.int .u8 c] w fun e w' => ∃ (n : Nat) (r : Int), Hid (n = begN c ∧ r = begR c) ∧ n ≤ 4 ∧ e = .returned (.tuple #[.int .i64 n, .int .i32 r]) ∧ w = w' :=
  (begin_any c w h0 h1).mono fun _ _ ⟨he, hw⟩ => ⟨_, _, ⟨rfl, rfl⟩, begN_le c, he, hw⟩

theorem ret_nxt {p q : Int × Nat × Bool} (h : p = q) : Ending.returned (.tuple #[.int .i32 q.1, .int .i64 q.2.1, .bool q.2.2]) = .returned (.tuple #[.int .i32 p.1, .int .i64 p.2.1, .bool p.2.2]) := by rw [h]
theorem good_end {s : ByteArray} {i n : Nat} {x : Int} (hi : i < s.size) (hn : n = begN (s[i].toNat : Int)) (h0 : 1 ≤ n) (h1 : i + n ≤ s.size) (hx : x = acc s i n) (hq : ((putS x).toList == (s.extract i (i + n)).toList) = true) :
    Ending.returned (.tuple #[.int .i32 x, .int .i64 n, .bool true]) = .returned (.tuple #[.int .i32 (nxt s i).1, .int .i64 (nxt s i).2.1, .bool (nxt s i).2.2]) := by
  subst hx
  rw [nxt_good hi hn h0 h1 (toList_eq hq)]
theorem bad_end {s : ByteArray} {i n : Nat} {x : Int} (hi : i < s.size) (hn : n = begN (s[i].toNat : Int)) (hx : x = acc s i n) (hq : ((putS x).toList == (s.extract i (i + n)).toList) = false) :
    Ending.returned (.tuple #[.int .i32 65533, .int .i64 1, .bool false]) = .returned (.tuple #[.int .i32 (nxt s i).1, .int .i64 (nxt s i).2.1, .bool (nxt s i).2.2]) := by
  subst hx
  rw [nxt_bad hi hn (.inr (.inr (toList_ne hq)))]
  rfl

set_option maxHeartbeats 400000 in
theorem rnext_any (s : ByteArray) (i : Nat) (w : World) (hs : s.size ≤ 1048576) (hi : i < s.size) :
    Calls Tryd.prog 43 #[.string s, .int .i64 i] w fun e w' => e = .returned (.tuple #[.int .i32 (nxt s i).1, .int .i64 (nxt s i).2.1, .bool (nxt s i).2.2]) ∧ Below w.heap.size w w' := by
  go_enter Tryd.func43, Tryd.ntmps43
  go_wp2_with (go_at_call 56; refine (begin_x _ _ (by omega) (by have := s[i].toNat_lt; omega)).mono ?_; rintro e w' ⟨n, r0, HB, hn, rfl, rfl⟩)
  go_loop [8, 9] (fun r j => ∃ (k : Nat) (x : Int), 1 ≤ k ∧ (k ≤ n ∨ k = 1) ∧ i + k ≤ s.size ∧ j = .int .i64 k ∧ r = .int .i32 x ∧ Hid (x = acc s i k)) (fun _ j => s.size - (intOf j).toNat)
  case atStart => exact ⟨1, _, by omega, by omega, by omega, rfl, rfl, HB.out.2.trans (acc_one hi).symm⟩
  case round =>
    obtain ⟨k, x, h1, hk, hik, rfl, rfl, HX⟩ := hrel
    by_cases hlt : k < n ∧ i + k < s.size
    · obtain ⟨hlt, hlt2⟩ := hlt
      have hbd := acc_bd s i k (by omega)
      rw [← HX.out] at hbd
      obtain ⟨hbd0, hbd1⟩ := hbd
      have h63 := and63
      go_wp2
      go_round
      case rel => exact ⟨k + 1, _, by omega, by omega, by omega, by go_num, rfl, rel_step HX.out h1 hlt2⟩
      case measure => simp [intOf]; omega
    · by_cases h0 : n = 0
      · subst h0
        go_wp2_with (go_at_call 57; refine (put_any _ _).mono ?_; rintro e w' ⟨rfl, hbel⟩)
        go_ret3
        exact ⟨ret_nxt (nxt_bad hi HB.out.1 (.inl rfl)), hbel⟩
      · by_cases h2 : i + n ≤ s.size
        · obtain rfl : k = n := by omega
          go_wp2_with (go_at_call 57; refine (put_any _ _).mono ?_; rintro e w' ⟨rfl, hbel⟩)
          · go_ret3
            have hq : ((putS x).toList == (s.extract i (i + k)).toList) = true := by assumption
            exact ⟨good_end hi HB.out.1 h1 h2 HX.out hq, hbel⟩
          · go_ret3
            have hq : ((putS x).toList == (s.extract i (i + k)).toList) = false := by assumption
            exact ⟨bad_end hi HB.out.1 HX.out hq, hbel⟩
        · go_wp2_with (go_at_call 57; refine (put_any _ _).mono ?_; rintro e w' ⟨rfl, hbel⟩)
          go_ret3
          exact ⟨ret_nxt (nxt_bad hi HB.out.1 (.inr (.inl h2))), hbel⟩
theorem dec_in (s : ByteArray) (pos : Nat) (h : pos < s.size) : 1 ≤ (Utf8.decode s pos).2 ∧ pos + (Utf8.decode s pos).2 ≤ s.size := by
  refine ⟨Lib.decode_width_pos s pos h, ?_⟩
  have e := nxt_dec s pos h
  have e2 : (nxt s pos).2.1 = (Utf8.decode s pos).2 := by rw [e, dec3]
  rw [← e2]
  by_cases c : 0 < begN ((s.get! pos).toNat : Int) ∧ pos + begN ((s.get! pos).toNat : Int) ≤ s.size ∧ putS (acc s pos (begN ((s.get! pos).toNat : Int))) = s.extract pos (pos + begN ((s.get! pos).toNat : Int))
  · unfold nxt; dsimp only; rw [if_pos c]; dsimp only; exact c.2.1
  · unfold nxt; dsimp only; rw [if_neg c]; dsimp only; omega

/-- limnerref01.Next at a place that lies in the text: a rune. -/
theorem rnext_ok (s : ByteArray) (i : Nat) (w : World) (hs : s.size ≤ 1048576) (hi : i < s.size) (hok : (dec3 s i).2.2 = true) :
    Calls Tryd.prog 43 #[.string s, .int .i64 i] w fun e w' => e = .returned (.tuple #[.int .i32 (Utf8.decode s i).1, .int .i64 (Utf8.decode s i).2, .bool true]) ∧ Below w.heap.size w w' :=
  (rnext_any s i w hs hi).mono fun e w' ⟨he, hw⟩ => ⟨by rw [he, nxt_dec s i hi, hok]; rfl, hw⟩
/-- limnerref01.Next at a place that lies in the text: a byte that is of none. -/
theorem rnext_no (s : ByteArray) (i : Nat) (w : World) (hs : s.size ≤ 1048576) (hi : i < s.size) (hok : (dec3 s i).2.2 = false) :
    Calls Tryd.prog 43 #[.string s, .int .i64 i] w fun e w' => e = .returned (.tuple #[.int .i32 (Utf8.decode s i).1, .int .i64 (Utf8.decode s i).2, .bool false]) ∧ Below w.heap.size w w' :=
  (rnext_any s i w hs hi).mono fun e w' ⟨he, hw⟩ => ⟨by rw [he, nxt_dec s i hi, hok]; rfl, hw⟩
theorem dec_no {s : ByteArray} {i : Nat} (h : (dec3 s i).2.2 = false) : (Utf8.decode s i).1 = 65533 ∧ (Utf8.decode s i).2 = 1 := by
  simpa [dec3] using h

end Go.Proofs.YtiilgeinkocanaaDoor
