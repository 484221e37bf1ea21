/- Contracts of codes.Next and limnerref01.Next at no place, of codes.Back. -/
import Derived.Test.YtkmcfcpockpadaaDoorCstarts
import Derived.Test.YtkmcfcpockpadaaDoorCount
import Derived.Deep.RegionHeld3
namespace Go.Proofs.YtkmcfcpockpadaaDoor
open Go.RowKit

theorem next_out (s : ByteArray) (p : Int) (w : World) (hs : s.size ≤ 1048576) (h : p < 0 ∨ (s.size : Int) ≤ p) :
    Calls Tryd.prog 40 #[.string s, .int .i64 p] w fun e w' => e = .returned (.tuple #[.int .i32 0, .int .i64 0, .bool false]) ∧ w = w' := by
  by_cases h0 : p < 0
  all_goals
    go_enter Tryd.func40, Tryd.ntmps40
    go_wp2
    go_ret3
    exact ⟨rfl, rfl⟩
theorem rnext_out (s : ByteArray) (p : Int) (w : World) (hs : s.size ≤ 1048576) (h : p < 0 ∨ (s.size : Int) ≤ p) :
    Calls Tryd.prog 36 #[.string s, .int .i64 p] w fun e w' => e = .returned (.tuple #[.int .i32 0, .int .i64 0, .bool false]) ∧ w = w' := by
  by_cases h0 : p < 0
  all_goals
    go_enter Tryd.func36, Tryd.ntmps36
    go_wp2
    go_ret3
    exact ⟨rfl, rfl⟩
theorem cback_out (s : ByteArray) (p : Int) (w : World) (hs : s.size ≤ 1048576) (h : p ≤ 0 ∨ (s.size : Int) < p) :
    Calls Tryd.prog 39 #[.string s, .int .i64 p] w fun e w' => e = .returned (.tuple #[.int .i32 0, .int .i64 0, .bool false]) ∧ w = w' := by
  by_cases h0 : p ≤ 0
  all_goals
    go_enter Tryd.func39, Tryd.ntmps39
    go_wp2
    go_ret3
    exact ⟨rfl, rfl⟩
/-- What both Backs answer of a text's front. -/
def BackPost (t : ByteArray) (w : World) (e : Ending) (w' : World) : Prop :=
  e = .returned (.tuple #[.int .i32 (Utf8.decode t (lastS t)).1, .int .i64 (Utf8.decode t (lastS t)).2, .bool (runeOk t (lastS t))]) ∧ Below w.heap.size w w'

theorem dec_bound (s : ByteArray) (i : Nat) : (Utf8.decode s i).1 ≤ 1114111 := by
  unfold Utf8.decode
  dsimp only
  have lb0 := (s.get! (i + 0)).toNat_lt
  repeat' split
  all_goals simp only [Utf8.runeError]
  all_goals (try simp [Utf8.valid] at *)
  all_goals omega
theorem lastdec_call (t : ByteArray) (w : World) (h : 0 < t.size) (hz : t.size ≤ 1048576) (hT : UTabs w) :
    Calls Tryd.prog 50 #[.string t] w fun e w' => ∃ r n : Nat, Hid (Utf8.decode t (lastS t) = (r, n)) ∧ r ≤ 1114111 ∧ 1 ≤ n ∧ n ≤ 4 ∧ e = .returned (.tuple #[.int .i32 r, .int .i64 n]) ∧ Below w.heap.size w w' := by
  refine (Tryd.utf8_DecodeLastRuneInString t w (by omega) hT).mono ?_
  rintro e w' ⟨he, hb⟩
  rw [last_eq h] at he
  exact ⟨_, _, rfl, dec_bound _ _, (dec_in t _ (lastS_spec h).1).1, (dec_facts _ _).1, he, hb⟩

set_option maxHeartbeats 400000 in
theorem cback_any (s : ByteArray) (p : Nat) (w : World) (hs : s.size ≤ 1048576) (h0 : 1 ≤ p) (h1 : p ≤ s.size) (hT : UTabs w) :
    Calls Tryd.prog 39 #[.string s, .int .i64 p] w (BackPost (s.extract 0 p) w) := by
  have HT := hide hT
  have hts := prefix_size h1
  obtain ⟨t, ht⟩ : ∃ t, s.extract 0 p = t := ⟨_, rfl⟩
  rw [ht] at hts ⊢
  have HTT := hide ht
  clear hT ht
  go_enter Tryd.func39, Tryd.ntmps39
  go_wp2_with (go_at_call 50; rw [HTT.out]; refine (lastdec_call t _ (by omega) (by omega) HT.out).mono ?_; rintro e w1 ⟨r, n, HD, hr, hn1, hn4, rfl, hb1⟩)
  · have h1 : (r : Int) = 65533 := by assumption
    go_ret3
    exact ⟨ret_next (by rw [HD.out]; exact h1.symm) (by rw [HD.out]) (ok_one HD.out (by omega) hn1), hb1⟩
  · have h1 : ¬ (r : Int) = 65533 := by assumption
    go_ret3
    exact ⟨ret_next (by rw [HD.out]) (by rw [HD.out]) (ok_two HD.out (by omega)), hb1⟩
end Go.Proofs.YtkmcfcpockpadaaDoor
