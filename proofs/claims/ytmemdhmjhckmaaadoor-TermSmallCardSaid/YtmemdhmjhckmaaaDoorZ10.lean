/- Contracts of limnerref07: whole, Begins. Contract of limnerref07.one. Contract of codes.Next. -/
import Derived.Test.YtmemdhmjhckmaaaDoorZ9
import Derived.Deep.QuietTactic
import Derived.BigQuiet
import Derived.Test.YtmemdhmjhckmaaaDoorShelf
import Derived.Lib.RuneCountTail
namespace Go.Proofs.YtmemdhmjhckmaaaDoor
open Go.RowKit

theorem ret_boolR {a b : Bool} (h : a = b) : Ending.returned (.bool a) = .returned (.bool b) := by rw [h]
theorem eq_decB (n m : Nat) : ((n : Int) == (m : Int)) = decide (n = m) := by
  rw [Bool.eq_iff_iff]; simp; omega
theorem rnext_0 (s : ByteArray) (w : World) (hs : s.size ≤ 1048576) (h : 0 < s.size) (b : Bool) (hb : (dec3 s 0).2.2 = b) :
    Calls Tryd.prog 58 #[.string s, .int .i64 0] w fun e w' => e = .returned (.tuple #[.int .i32 (Utf8.decode s 0).1, .int .i64 (Utf8.decode s 0).2, .bool b]) ∧ Below w.heap.size w w' := by
  have h1 := rnext_any s 0 w hs h
  rw [nxt_dec s 0 h] at h1
  subst hb
  exact h1

set_option maxHeartbeats 1000000 in
theorem whole_any (s : ByteArray) (w : World) (hs : s.size ≤ 1048576) (h : 0 < s.size) :
    Calls Tryd.prog 57 #[.string s] w fun e w' => e = .returned (.bool (wholeB s)) ∧ Below w.heap.size w w' := by
  have hw : wholeB s = ((dec3 s 0).2.2 && decide ((Utf8.decode s 0).2 = s.size)) := rfl
  cases hb : (dec3 s 0).2.2
  all_goals
    have HN := hide (rnext_0 s w hs h _ hb)
    have HD := hide (dec_in s 0 h)
    rw [hb] at hw
    have HW := hide hw
    clear hw hb
    generalize (Utf8.decode s 0).1 = r at *
    generalize (Utf8.decode s 0).2 = n at *
    go_enter Tryd.func57, Tryd.ntmps57
    go_wp2_with (go_at_call 58; refine HN.out.mono ?_; rintro e w' ⟨rfl, hb⟩)
    go_ret
    exact ⟨ret_boolR (by rw [HW.out]; first | rfl | exact eq_decB _ _), hb⟩

/-- A text with k bytes c behind it. -/
def padA (s : ByteArray) (c : UInt8) : Nat → ByteArray
  | 0 => s
  | k + 1 => padA s c k ++ ⟨#[c]⟩
theorem padA_size (s : ByteArray) (c : UInt8) (k : Nat) : (padA s c k).size = s.size + k := by
  induction k with
  | zero => rfl
  | succ k ih => simp only [padA]; rw [join_size, ih]; rfl
theorem join_getL {t u : ByteArray} {i : Nat} (h : i < t.size) : (t ++ u).get! i = t.get! i := by
  rw [get_of (by rw [join_size]; omega), get_of h, ByteArray.getElem_append_left h]
theorem join_getR {t : ByteArray} {c : UInt8} {i : Nat} (h : i = t.size) : (t ++ ⟨#[c]⟩).get! i = c := by
  subst h
  rw [get_of (by rw [join_size]; show t.size < t.size + 1; omega), ByteArray.getElem_append_right (Nat.le_refl _)]
  simp only [Nat.sub_self]
  rfl
theorem padA_get (s : ByteArray) (c : UInt8) (k i : Nat) (h : i < s.size + k) : (padA s c k).get! i = if i < s.size then s.get! i else c := by
  induction k with
  | zero => rw [if_pos (by omega)]; rfl
  | succ k ih =>
    simp only [padA]
    by_cases hi : i < s.size + k
    · rw [join_getL (by rw [padA_size]; exact hi), ih hi]
    · rw [join_getR (by rw [padA_size]; omega), if_neg (by omega)]
theorem beg_no {s : ByteArray} (h : (s.get! 0).toNat < 194 ∨ 244 < (s.get! 0).toNat ∨ needN (s.get! 0).toNat ≤ s.size) : begB s = false := by
  unfold begB
  refine decide_eq_false (fun hh => ?_)
  have h2 := hh.2.1
  rcases h with h | h | h
  · have : needN (s.get! 0).toNat = 1 := by unfold needN; rw [if_pos h]
    omega
  · have : needN (s.get! 0).toNat = 1 := by unfold needN; rw [if_neg (by omega), if_neg (by omega), if_neg (by omega), if_neg (by omega)]
    omega
  · omega
/-- Padded, it is whole just if it begins a rune; but alone it always does. -/
theorem pad_whole {s : ByteArray} {c : UInt8} {n k : Nat} (h0 : 194 ≤ (s.get! 0).toNat) (h1 : (s.get! 0).toNat ≤ 244) (hn : needN (s.get! 0).toNat = n) (hk : s.size + k = n) (hk1 : 1 ≤ k) (hs : 0 < s.size) (hc : c.toNat = 128 ∨ c.toNat = 191) :
    (2 ≤ s.size → wholeB (padA s c k) = begB s) ∧ (s.size = 1 → n = 2 → wholeB (padA s c k) = true) ∧ (s.size = 1 → begB s = true) := by
  have hsz := padA_size s c k
  have hn2 : 2 ≤ n ∧ n ≤ 4 := by rw [← hn]; unfold needN; rw [if_neg (by omega)]; (repeat' split) <;> omega
  have hi := whole_iff (padA s c k) (by omega)
  rw [hsz] at hi
  have g0 := padA_get s c k 0 (by omega)
  have g1 := padA_get s c k 1 (by omega)
  rw [if_pos hs] at g0
  rw [g0, g1] at hi
  rw [hn] at hi
  refine ⟨fun h2 => ?_, fun h2 h3 => ?_, fun h2 => ?_⟩
  · rw [Bool.eq_iff_iff, hi, if_pos (by omega)]
    unfold begB
    rw [decide_eq_true_eq, hn]
    have g2 : 2 < n → (padA s c k).get! 2 = if 2 < s.size then s.get! 2 else c := fun h => padA_get s c k 2 (by omega)
    have g3 : 3 < n → (padA s c k).get! 3 = if 3 < s.size then s.get! 3 else c := fun h => padA_get s c k 3 (by omega)
    have hg3 : 3 < n → ((padA s c k).get! 3).toNat = c.toNat := fun h => by rw [g3 h, if_neg (by omega)]
    constructor
    · rintro ⟨a1, a2, a3, a4⟩
      refine ⟨hs, by omega, fun _ => a2, fun h => ?_⟩
      have := a3 (by omega)
      rw [g2 (by omega), if_pos h] at this
      exact this
    · rintro ⟨a1, a2, a3, a4⟩
      refine ⟨hk, a3 (by omega), fun h => ?_, fun h => ?_⟩
      · rw [g2 (by omega)]
        by_cases h5 : 2 < s.size
        · rw [if_pos h5]; exact a4 h5
        · rw [if_neg h5]; omega
      · have := hg3 (by omega); omega
  · rw [hi, if_neg (by omega)]
    have : (s.get! 0).toNat < 224 := by
      unfold needN at hn
      revert hn
      (repeat' split) <;> intro hn <;> omega
    have e1 : loN (s.get! 0).toNat = 128 := by unfold loN; rw [if_neg (by omega), if_neg (by omega)]
    have e2 : hiN (s.get! 0).toNat = 191 := by unfold hiN; rw [if_neg (by omega), if_neg (by omega)]
    rw [e1, e2]
    omega
  · unfold begB
    rw [decide_eq_true_eq, hn]
    omega
theorem str_nonempty {s : ByteArray} (h : 0 < s.size) : s.toList.isEmpty = false := by
  rw [ByteArray.toList_eq]
  cases hh : s.data.toList with
  | nil => exfalso; have : s.data.size = 0 := by rw [← Array.length_toList, hh]; rfl
           exact absurd (show s.data.size = s.size from rfl) (by omega)
  | cons a l => rfl

set_option maxHeartbeats 1000000 in
theorem rbegins_no (s : ByteArray) (w : World) (hs : s.size ≤ 1000000) (h0 : 0 < s.size) (h : (s.get! 0).toNat < 194 ∨ 244 < (s.get! 0).toNat) :
    Calls Tryd.prog 60 #[.string s] w fun e w' => e = .returned (.bool (begB s)) ∧ Below w.heap.size w w' := by
  have hb : begB s = false := beg_no (by omega)
  rw [hb]
  clear hb
  have hl := str_nonempty h0
  obtain ⟨x0, hx0⟩ : ∃ x0, s.get! 0 = x0 := ⟨_, rfl⟩
  have hs0 : s[0]'(by omega) = x0 := by rw [← hx0]; exact (get_of h0).symm
  rw [hx0] at h
  clear hx0
  rcases h with h | h
  · have h1 : (x0.toNat : Int) < 194 := by omega
    go_enter Tryd.func60, Tryd.ntmps60
    go_wp2
    go_ret
    exact ⟨rfl, Below.refl _ _⟩
  · have h1 : ¬ (x0.toNat : Int) < 194 := by omega
    have h2 : (244 : Int) < (x0.toNat : Int) := by omega
    go_enter Tryd.func60, Tryd.ntmps60
    go_wp2
    go_ret
    exact ⟨rfl, Below.refl _ _⟩

set_option maxRecDepth 100000 in
set_option maxHeartbeats 2000000 in
theorem rbegins_2 (s : ByteArray) (w : World) (hs : s.size ≤ 1000000) (h0 : 0 < s.size) (hlo : 194 ≤ (s.get! 0).toNat) (hhi : (s.get! 0).toNat ≤ 223) :
    Calls Tryd.prog 60 #[.string s] w fun e w' => e = .returned (.bool (begB s)) ∧ Below w.heap.size w w' := by
  have hneed : needN (s.get! 0).toNat = 2 := by unfold needN; rw [if_neg (by omega), if_pos (by omega)]
  have hl := str_nonempty h0
  have HB := hide (fun (c : UInt8) (k : Nat) hk hk1 hc => pad_whole (s := s) (c := c) (k := k) (by omega) (by omega) hneed hk hk1 h0 hc)
  have HNO := hide (fun h => beg_no (s := s) (.inr (.inr h)))
  rw [hneed] at HNO
  clear hneed
  obtain ⟨x0, hx0⟩ : ∃ x0, s.get! 0 = x0 := ⟨_, rfl⟩
  have hs0 : s[0]'(by omega) = x0 := by rw [← hx0]; exact (get_of h0).symm
  rw [hx0] at hlo hhi
  clear hx0
  have t3 : ¬ (x0.toNat : Int) < 194 := by omega
  have t4 : ¬ (244 : Int) < (x0.toNat : Int) := by omega
  have t1 : ¬ (224 : Int) ≤ (x0.toNat : Int) := by omega
  have t2 : ¬ (240 : Int) ≤ (x0.toNat : Int) := by omega
  by_cases hge : 2 ≤ s.size
  · have t5 : (2 : Int) ≤ (s.size : Int) := by omega
    have HF := hide (HNO.out hge)
    clear HB HNO
    go_enter Tryd.func60, Tryd.ntmps60
    go_wp2
    go_ret
    exact ⟨ret_boolR HF.out.symm, Below.refl _ _⟩
  · have t5 : ¬ (2 : Int) ≤ (s.size : Int) := by omega
    clear HNO
    go_enter Tryd.func60, Tryd.ntmps60
    go_wp2
    go_loop [4, 5] (fun a b => ∃ (k : Nat) (u v : ByteArray), s.size + k ≤ 2 ∧ a = .string u ∧ b = .string v ∧ Hid (u = padA s 128 k ∧ v = padA s 191 k) ∧ Hid (u.size = s.size + k)) (fun a _ => match a with | .string u => 2 - u.size | _ => 0)
    case atStart => exact ⟨0, s, s, by omega, rfl, rfl, hide ⟨rfl, rfl⟩, hide rfl⟩
    case round =>
      obtain ⟨k, u, v, hk, rfl, rfl, HU, HZ⟩ := hrel
      have hz := HZ.out
      clear hs0 hl
      by_cases hlt : s.size + k < 2
      · have hv9 : (v.size : Int) ≤ 100 := by rw [HU.out.2, padA_size]; omega
        have hz1 : (u.size : Int) < 2 := by omega
        clear hz
        go_wp2
        go_round
        case rel => exact ⟨k + 1, _, _, by omega, rfl, rfl, hide ⟨by rw [HU.out.1]; rfl, by rw [HU.out.2]; rfl⟩, hide (by rw [join_size, HZ.out]; rfl)⟩
        case measure =>
          have := HZ.out
          show 2 - (u ++ _).size < 2 - u.size
          rw [join_size]
          show 2 - (u.size + 1) < 2 - u.size
          omega
      · have hz1 : ¬ (u.size : Int) < 2 := by omega
        have HA := hide (HB.out 128 k (by omega) (by omega) (.inl rfl))
        have HC := hide (HB.out 191 k (by omega) (by omega) (.inr rfl))
        rw [← HU.out.1] at HA
        rw [← HU.out.2] at HC
        have hu1 : u.size ≤ 1048576 := by omega
        have hu0 : 0 < u.size := by omega
        have hv : v.size = u.size := by rw [HU.out.1, HU.out.2, padA_size, padA_size]
        have hv1 : v.size ≤ 1048576 := by omega
        have hv0 : 0 < v.size := by omega
        have HWU := hide (fun W => whole_any u W hu1 hu0)
        have HWV := hide (fun W => whole_any v W hv1 hv0)
        clear hz hv HB
        by_cases h1 : s.size = 1
        · have t6 : ((s.size : Int) == 1) = true := by simp; omega
          have HT := hide (show begB s = true from HA.out.2.2 h1)
          cases hA : wholeB u
          all_goals
            cases hC : wholeB v
            all_goals
              rw [hA] at HWU HA
              rw [hC] at HWV HC
              have HX := hide HA.out.2.1
              have H1 := hide h1
              clear hA hC HA HC h1
              go_wp2_with (first | (go_at_call 57; refine (HWU.out _).mono ?_; rintro e w1 ⟨rfl, hb1⟩; clear HWU) | (go_at_call 57; refine (HWV.out _).mono ?_; rintro e w2 ⟨rfl, hb2⟩; clear HWV))
              go_ret
              exact ⟨ret_boolR (by rw [HT.out] <;> first | rfl | exact absurd (HX.out H1.out (by first | rfl | trivial)) (by simp)), by first | exact hb1.trans (hb2.mono hb1.size) | exact hb1⟩
        · have t6 : ((s.size : Int) == 1) = false := by simp; omega
          have h2 : 2 ≤ s.size := by omega
          have e1 := HA.out.1 h2
          have e2 := HC.out.1 h2
          cases hB : begB s
          all_goals
            rw [e1, hB] at HWU
            rw [e2, hB] at HWV
            have HBB := hide hB
            clear e1 e2 HA HC hB h1
            go_wp2_with (first | (go_at_call 57; refine (HWU.out _).mono ?_; rintro e w1 ⟨rfl, hb1⟩; clear HWU) | (go_at_call 57; refine (HWV.out _).mono ?_; rintro e w2 ⟨rfl, hb2⟩; clear HWV))
            go_ret
            refine ⟨ret_boolR HBB.out.symm, by first | exact hb1.trans (hb2.mono hb1.size) | exact hb1⟩

set_option maxRecDepth 100000 in
set_option maxHeartbeats 2000000 in
theorem rbegins_3 (s : ByteArray) (w : World) (hs : s.size ≤ 1000000) (h0 : 0 < s.size) (hlo : 224 ≤ (s.get! 0).toNat) (hhi : (s.get! 0).toNat ≤ 239) :
    Calls Tryd.prog 60 #[.string s] w fun e w' => e = .returned (.bool (begB s)) ∧ Below w.heap.size w w' := by
  have hneed : needN (s.get! 0).toNat = 3 := by unfold needN; rw [if_neg (by omega), if_neg (by omega), if_pos (by omega)]
  have hl := str_nonempty h0
  have HB := hide (fun (c : UInt8) (k : Nat) hk hk1 hc => pad_whole (s := s) (c := c) (k := k) (by omega) (by omega) hneed hk hk1 h0 hc)
  have HNO := hide (fun h => beg_no (s := s) (.inr (.inr h)))
  rw [hneed] at HNO
  clear hneed
  obtain ⟨x0, hx0⟩ : ∃ x0, s.get! 0 = x0 := ⟨_, rfl⟩
  have hs0 : s[0]'(by omega) = x0 := by rw [← hx0]; exact (get_of h0).symm
  rw [hx0] at hlo hhi
  clear hx0
  have t3 : ¬ (x0.toNat : Int) < 194 := by omega
  have t4 : ¬ (244 : Int) < (x0.toNat : Int) := by omega
  have t1 : (224 : Int) ≤ (x0.toNat : Int) := by omega
  have t2 : ¬ (240 : Int) ≤ (x0.toNat : Int) := by omega
  by_cases hge : 3 ≤ s.size
  · have t5 : (3 : Int) ≤ (s.size : Int) := by omega
    have HF := hide (HNO.out hge)
    clear HB HNO
    go_enter Tryd.func60, Tryd.ntmps60
    go_wp2
    go_ret
    exact ⟨ret_boolR HF.out.symm, Below.refl _ _⟩
  · have t5 : ¬ (3 : Int) ≤ (s.size : Int) := by omega
    clear HNO
    go_enter Tryd.func60, Tryd.ntmps60
    go_wp2
    go_loop [4, 5] (fun a b => ∃ (k : Nat) (u v : ByteArray), s.size + k ≤ 3 ∧ a = .string u ∧ b = .string v ∧ Hid (u = padA s 128 k ∧ v = padA s 191 k) ∧ Hid (u.size = s.size + k)) (fun a _ => match a with | .string u => 3 - u.size | _ => 0)
    case atStart => exact ⟨0, s, s, by omega, rfl, rfl, hide ⟨rfl, rfl⟩, hide rfl⟩
    case round =>
      obtain ⟨k, u, v, hk, rfl, rfl, HU, HZ⟩ := hrel
      have hz := HZ.out
      clear hs0 hl
      by_cases hlt : s.size + k < 3
      · have hv9 : (v.size : Int) ≤ 100 := by rw [HU.out.2, padA_size]; omega
        have hz1 : (u.size : Int) < 3 := by omega
        clear hz
        go_wp2
        go_round
        case rel => exact ⟨k + 1, _, _, by omega, rfl, rfl, hide ⟨by rw [HU.out.1]; rfl, by rw [HU.out.2]; rfl⟩, hide (by rw [join_size, HZ.out]; rfl)⟩
        case measure =>
          have := HZ.out
          show 3 - (u ++ _).size < 3 - u.size
          rw [join_size]
          show 3 - (u.size + 1) < 3 - u.size
          omega
      · have hz1 : ¬ (u.size : Int) < 3 := by omega
        have HA := hide (HB.out 128 k (by omega) (by omega) (.inl rfl))
        have HC := hide (HB.out 191 k (by omega) (by omega) (.inr rfl))
        rw [← HU.out.1] at HA
        rw [← HU.out.2] at HC
        have hu1 : u.size ≤ 1048576 := by omega
        have hu0 : 0 < u.size := by omega
        have hv : v.size = u.size := by rw [HU.out.1, HU.out.2, padA_size, padA_size]
        have hv1 : v.size ≤ 1048576 := by omega
        have hv0 : 0 < v.size := by omega
        have HWU := hide (fun W => whole_any u W hu1 hu0)
        have HWV := hide (fun W => whole_any v W hv1 hv0)
        clear hz hv HB
        by_cases h1 : s.size = 1
        · have t6 : ((s.size : Int) == 1) = true := by simp; omega
          have HT := hide (show begB s = true from HA.out.2.2 h1)
          cases hA : wholeB u
          all_goals
            cases hC : wholeB v
            all_goals
              rw [hA] at HWU HA
              rw [hC] at HWV HC
              have HX := hide HA.out.2.1
              have H1 := hide h1
              clear hA hC HA HC h1
              go_wp2_with (first | (go_at_call 57; refine (HWU.out _).mono ?_; rintro e w1 ⟨rfl, hb1⟩; clear HWU) | (go_at_call 57; refine (HWV.out _).mono ?_; rintro e w2 ⟨rfl, hb2⟩; clear HWV))
              go_ret
              exact ⟨ret_boolR (by rw [HT.out] <;> first | rfl | exact absurd (HX.out H1.out (by first | rfl | trivial)) (by simp)), by first | exact hb1.trans (hb2.mono hb1.size) | exact hb1⟩
        · have t6 : ((s.size : Int) == 1) = false := by simp; omega
          have h2 : 2 ≤ s.size := by omega
          have e1 := HA.out.1 h2
          have e2 := HC.out.1 h2
          cases hB : begB s
          all_goals
            rw [e1, hB] at HWU
            rw [e2, hB] at HWV
            have HBB := hide hB
            clear e1 e2 HA HC hB h1
            go_wp2_with (first | (go_at_call 57; refine (HWU.out _).mono ?_; rintro e w1 ⟨rfl, hb1⟩; clear HWU) | (go_at_call 57; refine (HWV.out _).mono ?_; rintro e w2 ⟨rfl, hb2⟩; clear HWV))
            go_ret
            refine ⟨ret_boolR HBB.out.symm, by first | exact hb1.trans (hb2.mono hb1.size) | exact hb1⟩

set_option maxRecDepth 100000 in
set_option maxHeartbeats 2000000 in
theorem rbegins_4 (s : ByteArray) (w : World) (hs : s.size ≤ 1000000) (h0 : 0 < s.size) (hlo : 240 ≤ (s.get! 0).toNat) (hhi : (s.get! 0).toNat ≤ 244) :
    Calls Tryd.prog 60 #[.string s] w fun e w' => e = .returned (.bool (begB s)) ∧ Below w.heap.size w w' := by
  have hneed : needN (s.get! 0).toNat = 4 := by unfold needN; rw [if_neg (by omega), if_neg (by omega), if_neg (by omega), if_pos (by omega)]
  have hl := str_nonempty h0
  have HB := hide (fun (c : UInt8) (k : Nat) hk hk1 hc => pad_whole (s := s) (c := c) (k := k) (by omega) (by omega) hneed hk hk1 h0 hc)
  have HNO := hide (fun h => beg_no (s := s) (.inr (.inr h)))
  rw [hneed] at HNO
  clear hneed
  obtain ⟨x0, hx0⟩ : ∃ x0, s.get! 0 = x0 := ⟨_, rfl⟩
  have hs0 : s[0]'(by omega) = x0 := by rw [← hx0]; exact (get_of h0).symm
  rw [hx0] at hlo hhi
  clear hx0
  have t3 : ¬ (x0.toNat : Int) < 194 := by omega
  have t4 : ¬ (244 : Int) < (x0.toNat : Int) := by omega
  have t1 : (224 : Int) ≤ (x0.toNat : Int) := by omega
  have t2 : (240 : Int) ≤ (x0.toNat : Int) := by omega
  by_cases hge : 4 ≤ s.size
  · have t5 : (4 : Int) ≤ (s.size : Int) := by omega
    have HF := hide (HNO.out hge)
    clear HB HNO
    go_enter Tryd.func60, Tryd.ntmps60
    go_wp2
    go_ret
    exact ⟨ret_boolR HF.out.symm, Below.refl _ _⟩
  · have t5 : ¬ (4 : Int) ≤ (s.size : Int) := by omega
    clear HNO
    go_enter Tryd.func60, Tryd.ntmps60
    go_wp2
    go_loop [4, 5] (fun a b => ∃ (k : Nat) (u v : ByteArray), s.size + k ≤ 4 ∧ a = .string u ∧ b = .string v ∧ Hid (u = padA s 128 k ∧ v = padA s 191 k) ∧ Hid (u.size = s.size + k)) (fun a _ => match a with | .string u => 4 - u.size | _ => 0)
    case atStart => exact ⟨0, s, s, by omega, rfl, rfl, hide ⟨rfl, rfl⟩, hide rfl⟩
    case round =>
      obtain ⟨k, u, v, hk, rfl, rfl, HU, HZ⟩ := hrel
      have hz := HZ.out
      clear hs0 hl
      by_cases hlt : s.size + k < 4
      · have hv9 : (v.size : Int) ≤ 100 := by rw [HU.out.2, padA_size]; omega
        have hz1 : (u.size : Int) < 4 := by omega
        clear hz
        go_wp2
        go_round
        case rel => exact ⟨k + 1, _, _, by omega, rfl, rfl, hide ⟨by rw [HU.out.1]; rfl, by rw [HU.out.2]; rfl⟩, hide (by rw [join_size, HZ.out]; rfl)⟩
        case measure =>
          have := HZ.out
          show 4 - (u ++ _).size < 4 - u.size
          rw [join_size]
          show 4 - (u.size + 1) < 4 - u.size
          omega
      · have hz1 : ¬ (u.size : Int) < 4 := by omega
        have HA := hide (HB.out 128 k (by omega) (by omega) (.inl rfl))
        have HC := hide (HB.out 191 k (by omega) (by omega) (.inr rfl))
        rw [← HU.out.1] at HA
        rw [← HU.out.2] at HC
        have hu1 : u.size ≤ 1048576 := by omega
        have hu0 : 0 < u.size := by omega
        have hv : v.size = u.size := by rw [HU.out.1, HU.out.2, padA_size, padA_size]
        have hv1 : v.size ≤ 1048576 := by omega
        have hv0 : 0 < v.size := by omega
        have HWU := hide (fun W => whole_any u W hu1 hu0)
        have HWV := hide (fun W => whole_any v W hv1 hv0)
        clear hz hv HB
        by_cases h1 : s.size = 1
        · have t6 : ((s.size : Int) == 1) = true := by simp; omega
          have HT := hide (show begB s = true from HA.out.2.2 h1)
          cases hA : wholeB u
          all_goals
            cases hC : wholeB v
            all_goals
              rw [hA] at HWU HA
              rw [hC] at HWV HC
              have HX := hide HA.out.2.1
              have H1 := hide h1
              clear hA hC HA HC h1
              go_wp2_with (first | (go_at_call 57; refine (HWU.out _).mono ?_; rintro e w1 ⟨rfl, hb1⟩; clear HWU) | (go_at_call 57; refine (HWV.out _).mono ?_; rintro e w2 ⟨rfl, hb2⟩; clear HWV))
              go_ret
              exact ⟨ret_boolR (by rw [HT.out] <;> first | rfl | exact absurd (HX.out H1.out (by first | rfl | trivial)) (by simp)), by first | exact hb1.trans (hb2.mono hb1.size) | exact hb1⟩
        · have t6 : ((s.size : Int) == 1) = false := by simp; omega
          have h2 : 2 ≤ s.size := by omega
          have e1 := HA.out.1 h2
          have e2 := HC.out.1 h2
          cases hB : begB s
          all_goals
            rw [e1, hB] at HWU
            rw [e2, hB] at HWV
            have HBB := hide hB
            clear e1 e2 HA HC hB h1
            go_wp2_with (first | (go_at_call 57; refine (HWU.out _).mono ?_; rintro e w1 ⟨rfl, hb1⟩; clear HWU) | (go_at_call 57; refine (HWV.out _).mono ?_; rintro e w2 ⟨rfl, hb2⟩; clear HWV))
            go_ret
            refine ⟨ret_boolR HBB.out.symm, by first | exact hb1.trans (hb2.mono hb1.size) | exact hb1⟩

/-- limnerref07.Begins. -/
theorem rbegins_any (s : ByteArray) (w : World) (hs : s.size ≤ 1000000) : Calls Tryd.prog 60 #[.string s] w fun e w' => e = .returned (.bool (begB s)) ∧ Below w.heap.size w w' := by
  by_cases h0 : s.size = 0
  · obtain rfl := size0 h0
    go_enter Tryd.func60, Tryd.ntmps60
    go_wp2
    go_ret
    exact ⟨rfl, Below.refl _ _⟩
  by_cases h1 : (s.get! 0).toNat < 194 ∨ 244 < (s.get! 0).toNat
  · exact rbegins_no s w hs (by omega) h1
  by_cases h2 : (s.get! 0).toNat ≤ 223
  · exact rbegins_2 s w hs (by omega) (by omega) h2
  by_cases h3 : (s.get! 0).toNat ≤ 239
  · exact rbegins_3 s w hs (by omega) (by omega) h3
  · exact rbegins_4 s w hs (by omega) (by omega) (by omega)

end Go.Proofs.YtmemdhmjhckmaaaDoor
namespace Go.Proofs.YtmemdhmjhckmaaaDoor
open Go.RowKit

set_option maxHeartbeats 1000000 in
theorem one_any (k r : Int) (w : World) :
    Calls Tryd.prog 59 #[.int .i64 k, .int .i32 r] w fun e w' => e = .returned (.slice (some ⟨w.heap.size, 0, none⟩) 1 1) ∧ w' = w.alloc (.cells #[.int .i64 k, .int .i32 r, .slice none 0 0, .int .u8 0] 77) := by
  go_enter Tryd.func59, Tryd.ntmps59
  go_wp2
  go_ret
  exact ⟨rfl, rfl⟩

end Go.Proofs.YtmemdhmjhckmaaaDoor
namespace Go.Proofs.YtmemdhmjhckmaaaDoor
open Go.RowKit

/-- The tables of unicode/utf8, in their blocks. -/
def UTabs (w : World) : Prop := Lib.Utf8Tabs 3 4 w
theorem UTabs.below {w W : World} (h : UTabs w) (hb : Below w.heap.size w W) : UTabs W :=
  ⟨fun c hc => (hb.cell (p := ⟨3, c, none⟩) (World.block_lt_of_cell? _ _ (h.1 c hc))).trans (h.1 c hc), fun i hi =>
    ⟨(hb.cell (p := ⟨4, 2 * i, none⟩) (World.block_lt_of_cell? _ _ (h.2 i hi).1)).trans (h.2 i hi).1, (hb.cell (p := ⟨4, 2 * i + 1, none⟩) (World.block_lt_of_cell? _ _ (h.2 i hi).2)).trans (h.2 i hi).2⟩⟩

theorem decGo (s : ByteArray) (i : Nat) (h : i < s.size) : Lib.decodeGo (s.extract i s.size) = Utf8.decode s i := by
  have hz : ¬ (s.extract i s.size).size = 0 := by rw [Lib.tail_size]; omega
  rw [Lib.decodeGo, if_neg hz, Lib.tail_decode, Nat.add_zero]

theorem ret_next {a b c d : Int} {p q : Bool} (h : a = b) (h' : c = d) (h2 : p = q) : Ending.returned (.tuple #[.int .i32 a, .int .i64 c, .bool p]) = .returned (.tuple #[.int .i32 b, .int .i64 d, .bool q]) := by rw [h, h', h2]
/-- Is it a rune? -/
def runeOk (s : ByteArray) (i : Nat) : Bool := !((Utf8.decode s i).1 == 65533 && (Utf8.decode s i).2 == 1)

theorem decode_call (s : ByteArray) (i : Nat) (w : World) (h : i < s.size) (hT : UTabs w) :
    Calls Tryd.prog 36 #[.string (s.extract i s.size)] w fun e w' => ∃ r n : Nat, Hid (Utf8.decode s i = (r, n)) ∧ r ≤ 1114111 ∧ 1 ≤ n ∧ n ≤ 4 ∧ e = .returned (.tuple #[.int .i32 r, .int .i64 n]) ∧ Below w.heap.size w w' := by
  refine (Tryd.utf8_DecodeRuneInString (s.extract i s.size) w hT).mono ?_
  rintro e w' ⟨he, hb⟩
  rw [decGo s i h] at he
  have hn : (Utf8.decode s i).1 ≤ 1114111 ∧ 1 ≤ (Utf8.decode s i).2 ∧ (Utf8.decode s i).2 ≤ 4 := by
    have lb0 := (s.get! (i + 0)).toNat_lt
    refine ⟨?_, (dec_in s i h).1, ?_⟩
    · unfold Utf8.decode
      dsimp only
      repeat' split
      all_goals simp only [Utf8.runeError]
      all_goals (try simp [Utf8.valid] at *)
      all_goals omega
    · unfold Utf8.decode
      dsimp only
      repeat' split
      all_goals simp
  exact ⟨_, _, rfl, hn.1, hn.2.1, hn.2.2, he, hb⟩

theorem ok_one {s : ByteArray} {i r n : Nat} (h : Utf8.decode s i = (r, n)) (hr : r = 65533) (hn : 1 ≤ n) : decide ((1 : Int) < (n : Int)) = runeOk s i := by
  rw [runeOk, h, hr]
  by_cases h1 : n = 1
  · subst h1; rfl
  · rw [decide_eq_true (by omega)]; simp [h1]
theorem ok_two {s : ByteArray} {i r n : Nat} (h : Utf8.decode s i = (r, n)) (hr : ¬ r = 65533) : true = runeOk s i := by
  rw [runeOk, h]
  simp [hr]

set_option maxHeartbeats 400000 in
theorem next_any (s : ByteArray) (i : Nat) (w : World) (hs : s.size ≤ 1048576) (h : i < s.size) (hT : UTabs w) :
    Calls Tryd.prog 17 #[.string s, .int .i64 i] w fun e w' => e = .returned (.tuple #[.int .i32 (Utf8.decode s i).1, .int .i64 (Utf8.decode s i).2, .bool (runeOk s i)]) ∧ Below w.heap.size w w' := by
  have HT := hide hT
  clear hT
  go_enter Tryd.func17, Tryd.ntmps17
  go_wp2_with (go_at_call 36; refine (decode_call s i _ h HT.out).mono ?_; rintro e w1 ⟨r, n, HD, hr, hn1, hn4, rfl, hb1⟩)
  · have h1 : (r : Int) = 65533 := by assumption
    go_ret3
    exact ⟨ret_next (by rw [HD.out]; exact h1.symm) (by rw [HD.out]) (ok_one HD.out (by omega) hn1), hb1⟩
  · have h1 : ¬ (r : Int) = 65533 := by assumption
    go_ret3
    exact ⟨ret_next (by rw [HD.out]) (by rw [HD.out]) (ok_two HD.out (by omega)), hb1⟩
end Go.Proofs.YtmemdhmjhckmaaaDoor
