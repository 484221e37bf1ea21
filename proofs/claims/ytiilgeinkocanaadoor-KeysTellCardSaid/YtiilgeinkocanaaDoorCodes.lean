/- Contract of codes.Next. -/
import Derived.Test.YtiilgeinkocanaaDoorNext
import Derived.Test.YtiilgeinkocanaaDoorShelf
import Derived.Lib.RuneCountTail
namespace Go.Proofs.YtiilgeinkocanaaDoor
open Go.RowKit

/-- The tables of unicode/utf8, in their blocks. -/
def UTabs (w : World) : Prop := Lib.Utf8Tabs 2 3 w
theorem UTabs.below {w W : World} (h : UTabs w) (hb : Below w.heap.size w W) : UTabs W :=
  ⟨fun c hc => (hb.cell (p := ⟨2, c, none⟩) (World.block_lt_of_cell? _ _ (h.1 c hc))).trans (h.1 c hc), fun i hi =>
    ⟨(hb.cell (p := ⟨3, 2 * i, none⟩) (World.block_lt_of_cell? _ _ (h.2 i hi).1)).trans (h.2 i hi).1, (hb.cell (p := ⟨3, 2 * i + 1, none⟩) (World.block_lt_of_cell? _ _ (h.2 i hi).2)).trans (h.2 i hi).2⟩⟩

theorem decGo (s : ByteArray) (i : Nat) (h : i < s.size) : Lib.decodeGo (s.extract i s.size) = Utf8.decode s i := by
  have hz : ¬ (s.extract i s.size).size = 0 := by rw [Lib.tail_size]; omega
  rw [Lib.decodeGo, if_neg hz, Lib.tail_decode, Nat.add_zero]

theorem ret_next {a b c d : Int} {p q : Bool} (h : a = b) (h' : c = d) (h2 : p = q) : Ending.returned (.tuple #[.int .i32 a, .int .i64 c, .bool p]) = .returned (.tuple #[.int .i32 b, .int .i64 d, .bool q]) := by rw [h, h', h2]
/-- Is it a rune? -/
def runeOk (s : ByteArray) (i : Nat) : Bool := !((Utf8.decode s i).1 == 65533 && (Utf8.decode s i).2 == 1)

theorem decode_call (s : ByteArray) (i : Nat) (w : World) (h : i < s.size) (hT : UTabs w) :
    Calls Tryd.prog 66 #[.string (s.extract i s.size)] w fun e w' => ∃ r n : Nat, Hid (Utf8.decode s i = (r, n)) ∧ r ≤ 1114111 ∧ 1 ≤ n ∧ n ≤ 4 ∧ e = .returned (.tuple #[.int .i32 r, .int .i64 n]) ∧ Below w.heap.size w w' := by
  refine (Tryd.utf8_DecodeRuneInString (s.extract i s.size) w hT).mono ?_
  rintro e w' ⟨he, hb⟩
  rw [decGo s i h] at he
  have hn : (Utf8.decode s i).1 ≤ 1114111 ∧ 1 ≤ (Utf8.decode s i).2 ∧ (Utf8.decode s i).2 ≤ 4 := by
    have lb0 := (s.get! (i + 0)).toNat_lt
    refine ⟨?_, (dec_in s i h).1, ?_⟩
    · unfold Utf8.decode
      dsimp only
      repeat' split
      all_goals simp only [Utf8.runeError]
      all_goals (try simp [Utf8.valid] at *)
      all_goals omega
    · unfold Utf8.decode
      dsimp only
      repeat' split
      all_goals simp
  exact ⟨_, _, rfl, hn.1, hn.2.1, hn.2.2, he, hb⟩

theorem ok_one {s : ByteArray} {i r n : Nat} (h : Utf8.decode s i = (r, n)) (hr : r = 65533) (hn : 1 ≤ n) : decide ((1 : Int) < (n : Int)) = runeOk s i := by
  rw [runeOk, h, hr]
  by_cases h1 : n = 1
  · subst h1; rfl
  · rw [decide_eq_true (by omega)]; simp [h1]
theorem ok_two {s : ByteArray} {i r n : Nat} (h : Utf8.decode s i = (r, n)) (hr : ¬ r = 65533) : true = runeOk s i := by
  rw [runeOk, h]
  simp [hr]

set_option maxHeartbeats 400000 in
theorem next_any (s : ByteArray) (i : Nat) (w : World) (hs : s.size ≤ 1048576) (h : i < s.size) (hT : UTabs w) :
    Calls Tryd.prog 54 #[.string s, .int .i64 i] w fun e w' => e = .returned (.tuple #[.int .i32 (Utf8.decode s i).1, .int .i64 (Utf8.decode s i).2, .bool (runeOk s i)]) ∧ Below w.heap.size w w' := by
  have HT := hide hT
  clear hT
  go_enter Tryd.func54, Tryd.ntmps54
  go_wp2_with (go_at_call 66; refine (decode_call s i _ h HT.out).mono ?_; rintro e w1 ⟨r, n, HD, hr, hn1, hn4, rfl, hb1⟩)
  · have h1 : (r : Int) = 65533 := by assumption
    go_ret3
    exact ⟨ret_next (by rw [HD.out]; exact h1.symm) (by rw [HD.out]) (ok_one HD.out (by omega) hn1), hb1⟩
  · have h1 : ¬ (r : Int) = 65533 := by assumption
    go_ret3
    exact ⟨ret_next (by rw [HD.out]) (by rw [HD.out]) (ok_two HD.out (by omega)), hb1⟩
end Go.Proofs.YtiilgeinkocanaaDoor
