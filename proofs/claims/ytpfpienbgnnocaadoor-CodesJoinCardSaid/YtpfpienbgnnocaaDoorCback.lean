/- Contracts of codes.Next and limnerref01.Next at no place, of codes.Back, limnerref01.Back, limnerref01.Valid and codes.Put. -/
import Derived.Test.YtpfpienbgnnocaaDoorCstarts
import Derived.Test.YtpfpienbgnnocaaDoorCount
import Derived.Deep.RegionHeld3
namespace Go.Proofs.YtpfpienbgnnocaaDoor
open Go.RowKit

theorem next_out (s : ByteArray) (p : Int) (w : World) (hs : s.size ≤ 1048576) (h : p < 0 ∨ (s.size : Int) ≤ p) :
    Calls Tryd.prog 10 #[.string s, .int .i64 p] w fun e w' => e = .returned (.tuple #[.int .i32 0, .int .i64 0, .bool false]) ∧ w = w' := by
  by_cases h0 : p < 0
  all_goals
    go_enter Tryd.func10, Tryd.ntmps10
    go_wp2
    go_ret3
    exact ⟨rfl, rfl⟩
theorem rnext_out (s : ByteArray) (p : Int) (w : World) (hs : s.size ≤ 1048576) (h : p < 0 ∨ (s.size : Int) ≤ p) :
    Calls Tryd.prog 11 #[.string s, .int .i64 p] w fun e w' => e = .returned (.tuple #[.int .i32 0, .int .i64 0, .bool false]) ∧ w = w' := by
  by_cases h0 : p < 0
  all_goals
    go_enter Tryd.func11, Tryd.ntmps11
    go_wp2
    go_ret3
    exact ⟨rfl, rfl⟩
theorem cback_out (s : ByteArray) (p : Int) (w : World) (hs : s.size ≤ 1048576) (h : p ≤ 0 ∨ (s.size : Int) < p) :
    Calls Tryd.prog 12 #[.string s, .int .i64 p] w fun e w' => e = .returned (.tuple #[.int .i32 0, .int .i64 0, .bool false]) ∧ w = w' := by
  by_cases h0 : p ≤ 0
  all_goals
    go_enter Tryd.func12, Tryd.ntmps12
    go_wp2
    go_ret3
    exact ⟨rfl, rfl⟩
theorem rback_out (s : ByteArray) (p : Int) (w : World) (hs : s.size ≤ 1048576) (h : p ≤ 0 ∨ (s.size : Int) < p) :
    Calls Tryd.prog 13 #[.string s, .int .i64 p] w fun e w' => e = .returned (.tuple #[.int .i32 0, .int .i64 0, .bool false]) ∧ w = w' := by
  by_cases h0 : p ≤ 0
  all_goals
    go_enter Tryd.func13, Tryd.ntmps13
    go_wp2
    go_ret3
    exact ⟨rfl, rfl⟩

/-- What both Backs answer of a text's front. -/
def BackPost (t : ByteArray) (w : World) (e : Ending) (w' : World) : Prop :=
  e = .returned (.tuple #[.int .i32 (Utf8.decode t (lastS t)).1, .int .i64 (Utf8.decode t (lastS t)).2, .bool (runeOk t (lastS t))]) ∧ Below w.heap.size w w'

theorem dec_bound (s : ByteArray) (i : Nat) : (Utf8.decode s i).1 ≤ 1114111 := by
  unfold Utf8.decode
  dsimp only
  have lb0 := (s.get! (i + 0)).toNat_lt
  repeat' split
  all_goals simp only [Utf8.runeError]
  all_goals (try simp [Utf8.valid] at *)
  all_goals omega
theorem lastdec_call (t : ByteArray) (w : World) (h : 0 < t.size) (hz : t.size ≤ 1048576) (hT : UTabs w) :
    Calls Tryd.prog 24 #[.string t] w fun e w' => ∃ r n : Nat, Hid (Utf8.decode t (lastS t) = (r, n)) ∧ r ≤ 1114111 ∧ 1 ≤ n ∧ n ≤ 4 ∧ e = .returned (.tuple #[.int .i32 r, .int .i64 n]) ∧ Below w.heap.size w w' := by
  refine (Tryd.utf8_DecodeLastRuneInString t w (by omega) hT).mono ?_
  rintro e w' ⟨he, hb⟩
  rw [last_eq h] at he
  exact ⟨_, _, rfl, dec_bound _ _, (dec_in t _ (lastS_spec h).1).1, (dec_facts _ _).1, he, hb⟩

set_option maxHeartbeats 400000 in
theorem cback_any (s : ByteArray) (p : Nat) (w : World) (hs : s.size ≤ 1048576) (h0 : 1 ≤ p) (h1 : p ≤ s.size) (hT : UTabs w) :
    Calls Tryd.prog 12 #[.string s, .int .i64 p] w (BackPost (s.extract 0 p) w) := by
  have HT := hide hT
  have hts := prefix_size h1
  obtain ⟨t, ht⟩ : ∃ t, s.extract 0 p = t := ⟨_, rfl⟩
  rw [ht] at hts ⊢
  have HTT := hide ht
  clear hT ht
  go_enter Tryd.func12, Tryd.ntmps12
  go_wp2_with (go_at_call 24; rw [HTT.out]; refine (lastdec_call t _ (by omega) (by omega) HT.out).mono ?_; rintro e w1 ⟨r, n, HD, hr, hn1, hn4, rfl, hb1⟩)
  · have h1 : (r : Int) = 65533 := by assumption
    go_ret3
    exact ⟨ret_next (by rw [HD.out]; exact h1.symm) (by rw [HD.out]) (ok_one HD.out (by omega) hn1), hb1⟩
  · have h1 : ¬ (r : Int) = 65533 := by assumption
    go_ret3
    exact ⟨ret_next (by rw [HD.out]) (by rw [HD.out]) (ok_two HD.out (by omega)), hb1⟩

theorem keep_rback {w W w1 : World} {g j : Nat} {v : Value} (hc : W.cell? ⟨g, j, none⟩ = some v) (hB : Below w.heap.size w W) (hb : Below W.heap.size W w1) : w1.cell? ⟨g, j, none⟩ = some v ∧ Below w.heap.size w w1 :=
  ⟨(hb.cell (p := ⟨g, j, none⟩) (World.block_lt_of_cell? _ _ hc)).trans hc, hB.trans (hb.mono hB.size)⟩

set_option maxHeartbeats 1000000 in
theorem rback_any (s : ByteArray) (p : Nat) (w : World) (hs : s.size ≤ 1048576) (h0 : 1 ≤ p) (h1 : p ≤ s.size) :
    Calls Tryd.prog 13 #[.string s, .int .i64 p] w (BackPost (s.extract 0 p) w) := by
  have hts := prefix_size h1
  obtain ⟨t, ht⟩ : ∃ t, s.extract 0 p = t := ⟨_, rfl⟩
  rw [ht] at hts ⊢
  obtain ⟨hk, -, hl1, -⟩ := lastS_spec (s := t) (by omega)
  have hl2 := starts_len t
  have HK := hide (show lastS t = (starts t)[(starts t).length - 1]?.getD 0 from rfl)
  have HTT := hide ht
  clear ht
  go_enter Tryd.func13, Tryd.ntmps13
  go_wp2_with (go_at_call 14; rw [HTT.out]; refine (starts_any t _ (by omega)).mono ?_; rintro e w1 ⟨A, c, rfl, hown, hb1⟩)
  obtain ⟨g, rfl, hc⟩ := (NatsAt.of_own hown) ((starts t).length - 1) (by omega)
  rw [← HK.out] at hc
  clear hown
  generalize (starts t).length = m at *
  generalize hkk : lastS t = k at *
  have HKK := hide hkk
  clear hkk HK
  obtain ⟨q, hq⟩ : ∃ q, q = m - 1 := ⟨_, rfl⟩
  rw [← hq] at hc
  have i0 : IntKind.i64.wrap ((m : Int) - 1) = (q : Int) := by rw [Go.wrap_small _ (by omega) (by omega)]; omega
  have i2 : (0 : Int) ≤ (q : Int) := by omega
  have i3 : (q : Int) < (m : Int) := by omega
  clear hq
  go_wp2_with fail
  go_region_held3 (fun w' => w'.cell? ⟨g, q, none⟩ = some (.int .i64 (k : Int)) ∧ Below w.heap.size w w')
    (first | exact ⟨hc, hb1.drew⟩ | exact keep_rback (W := w1.drew) hc hb1.drew hb2)
    (first
      | (go_at_call 11; rw [HTT.out]; refine (rnext_u t k _ (by omega) hk).mono ?_; rintro e w2 ⟨rfl, hb2⟩))
  go_wp2
  go_ret3
  exact ⟨by rw [HKK.out]; rfl, (keep_rback (w := w) (W := w1.drew) hc hb1.drew hb2).2⟩
end Go.Proofs.YtpfpienbgnnocaaDoor
