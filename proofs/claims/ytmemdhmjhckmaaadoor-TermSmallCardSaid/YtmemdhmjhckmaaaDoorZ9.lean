/- Plain: what bytes ask of a terminal, by the bytes behind which one stands. No program in sight. Contract of limnerref01.begin. Contract of limnerref01.Next. The actions that a slice holds; a slice of actions that the call made, and what is appended to it. -/
import Derived.Test.YtmemdhmjhckmaaaDoorZ8
import Derived.Lib.DecodeN
import Derived.Test.YtmemdhmjhckmaaaDoorZ2
import Derived.Laws.BitsAllLaws
import Derived.WideShapes
import Derived.Lib.RuneCount
import Derived.Laws.OwnMore
import Derived.Maps.AppendAt
import Derived.OwnWalk
import Derived.Laws.AppendOwnNone
import Derived.Deep.DeepFit
import Derived.Deep.RegionHeld
namespace Go.Proofs.YtmemdhmjhckmaaaDoor

/-- How many bytes a rune has that begins so. -/
def needN (b : Nat) : Nat := if b < 194 then 1 else if b < 224 then 2 else if b < 240 then 3 else if b < 245 then 4 else 1
def loN (b : Nat) : Nat := if b = 224 then 160 else if b = 240 then 144 else 128
def hiN (b : Nat) : Nat := if b = 237 then 159 else if b = 244 then 143 else 191
/-- Are bytes a beginning of a rune, fewer than it has? -/
def begB (s : ByteArray) : Bool := decide (0 < s.size ∧ s.size < needN (s.get! 0).toNat ∧ (1 < s.size → loN (s.get! 0).toNat ≤ (s.get! 1).toNat ∧ (s.get! 1).toNat ≤ hiN (s.get! 0).toNat) ∧ (2 < s.size → 128 ≤ (s.get! 2).toNat ∧ (s.get! 2).toNat ≤ 191))
/-- Are they one rune's bytes? -/
def wholeB (s : ByteArray) : Bool := (dec3 s 0).2.2 && decide ((Utf8.decode s 0).2 = s.size)

theorem need_le (b : Nat) : 1 ≤ needN b ∧ needN b ≤ 4 := by unfold needN; (repeat' split) <;> omega

theorem whole_iff (s : ByteArray) (h : 2 ≤ s.size) : wholeB s = true ↔ s.size = needN (s.get! 0).toNat ∧ (loN (s.get! 0).toNat ≤ (s.get! 1).toNat ∧ (s.get! 1).toNat ≤ hiN (s.get! 0).toNat) ∧ (2 < s.size → 128 ≤ (s.get! 2).toNat ∧ (s.get! 2).toNat ≤ 191) ∧ (3 < s.size → 128 ≤ (s.get! 3).toNat ∧ (s.get! 3).toNat ≤ 191) := by
  have lb0 := (s.get! 0).toNat_lt
  have lb1 := (s.get! 1).toNat_lt
  have lb2 := (s.get! 2).toNat_lt
  have lb3 := (s.get! 3).toNat_lt
  have e : wholeB s = true ↔ (Utf8.decode s 0).2 = s.size := by
    unfold wholeB dec3
    simp only [Bool.and_eq_true, decide_eq_true_eq, Bool.not_eq_true', Bool.and_eq_false_iff, beq_eq_false_iff_ne]
    constructor
    · exact fun h => h.2
    · exact fun h => ⟨.inr (by omega), h⟩
  rw [e, Lib.decode_at]
  simp only [Nat.zero_add, Nat.sub_zero]
  generalize (s.get! 0).toNat = b0 at *
  generalize (s.get! 1).toNat = b1 at *
  generalize (s.get! 2).toNat = b2 at *
  generalize (s.get! 3).toNat = b3 at *
  generalize s.size = n at *
  unfold Lib.decodeN
  by_cases c1 : b0 < 128
  · rw [if_pos c1]
    constructor
    · intro h; dsimp only at h; omega
    · intro h; unfold needN at h; rw [if_pos (by omega)] at h; omega
  rw [if_neg c1]
  by_cases c2 : b0 < 194
  · have n1 : needN b0 = 1 := by unfold needN; rw [if_pos c2]
    rw [n1]
    constructor
    · intro h
      exfalso
      revert h
      (repeat' split) <;> intro h <;> dsimp only at h <;> omega
    · intro h; omega
  by_cases c3 : b0 < 224
  · have n1 : needN b0 = 2 := by unfold needN; rw [if_neg c2, if_pos c3]
    have n2 : loN b0 = 128 := by unfold loN; rw [if_neg (by omega), if_neg (by omega)]
    have n3 : hiN b0 = 191 := by unfold hiN; rw [if_neg (by omega), if_neg (by omega)]
    rw [n1, n2, n3]
    constructor
    · intro h
      revert h
      (repeat' split) <;> intro h <;> dsimp only at h <;> omega
    · rintro ⟨rfl, h1, h2, h3⟩
      rw [if_pos (by omega), if_pos (by omega)]
  by_cases c4 : b0 < 240
  · have n1 : needN b0 = 3 := by unfold needN; rw [if_neg c2, if_neg c3, if_pos c4]
    rw [n1]
    constructor
    · intro h
      revert h
      unfold loN hiN
      (repeat' split) <;> intro h <;> dsimp only at h <;> omega
    · rintro ⟨rfl, h1, h2, h3⟩
      have hb : 128 ≤ b1 ∧ b1 ≤ 191 := by
        revert h1
        unfold loN hiN
        (repeat' split) <;> intro h1 <;> omega
      rw [if_neg (by omega), if_pos (by omega)]
      revert h1
      unfold loN hiN
      (repeat' split) <;> intro h1 <;> first | rfl | omega
  by_cases c5 : b0 < 245
  · have n1 : needN b0 = 4 := by unfold needN; rw [if_neg c2, if_neg c3, if_neg c4, if_pos c5]
    rw [n1]
    constructor
    · intro h
      revert h
      unfold loN hiN
      (repeat' split) <;> intro h <;> dsimp only at h <;> omega
    · rintro ⟨rfl, h1, h2, h3⟩
      have hb : 128 ≤ b1 ∧ b1 ≤ 191 := by
        revert h1
        unfold loN hiN
        (repeat' split) <;> intro h1 <;> omega
      rw [if_neg (by omega), if_neg (by omega), if_pos (by omega)]
      revert h1
      unfold loN hiN
      (repeat' split) <;> intro h1 <;> first | rfl | omega
  · have n1 : needN b0 = 1 := by unfold needN; rw [if_neg c2, if_neg c3, if_neg c4, if_neg c5]
    rw [n1]
    constructor
    · intro h
      exfalso
      revert h
      (repeat' split) <;> intro h <;> dsimp only at h <;> omega
    · intro h; omega

/-- An action: its kind, rune, numbers, last byte. -/
structure Ac where
  kind : Int
  r : Int
  ps : List Int
  fin : Int
deriving DecidableEq
def inv : Ac := ⟨5, 0, [], 0⟩
/-- Numbers of a sequence: those that are done, the one that goes on. -/
def pgo : List UInt8 → List Int → Int → Option (List Int)
  | [], d, n => some (d ++ [n])
  | c :: r, d, n => if c.toNat = 59 then pgo r (d ++ [n]) 0 else if 48 ≤ c.toNat ∧ c.toNat ≤ 57 then pgo r d (min (10 * n + ((c.toNat : Int) - 48)) 9999) else none
def few (l : List Int) : Option (List Int) := if l.length ≤ 16 then some l else none
def params (s : ByteArray) : Option (List Int) := if s.size = 0 then some [] else (pgo s.data.toList [] 0).bind few

def ground (x : Int) : (Nat × ByteArray) × List Ac :=
  if x = 27 then ((2, ⟨#[]⟩), []) else if x < 32 ∨ x = 127 then ((0, ⟨#[]⟩), [⟨2, x, [], 0⟩]) else if x < 128 then ((0, ⟨#[]⟩), [⟨1, x, [], 0⟩])
  else if begB (strOfNums [x]) = true then ((1, strOfNums [x]), []) else ((0, ⟨#[]⟩), [inv])
def inRune (t : ByteArray) (x : Int) : (Nat × ByteArray) × List Ac :=
  if wholeB (t ++ strOfNums [x]) = true then ((0, ⟨#[]⟩), [⟨1, (Utf8.decode (t ++ strOfNums [x]) 0).1, [], 0⟩])
  else if begB (t ++ strOfNums [x]) = true then ((1, t ++ strOfNums [x]), []) else ((ground x).1, inv :: (ground x).2)
def csi (t : ByteArray) (x : Int) : Option (List Int) → (Nat × ByteArray) × List Ac
  | some l => ((0, ⟨#[]⟩), [⟨3, 0, l, x⟩])
  | none => ((0, ⟨#[]⟩), [inv])
def inSeq (at_ : Nat) (t : ByteArray) (x : Int) : (Nat × ByteArray) × List Ac :=
  if x = 27 then ((2, ⟨#[]⟩), [inv]) else if x = 24 ∨ x = 26 then ((0, ⟨#[]⟩), [inv]) else if x < 32 then ((at_, t), [⟨2, x, [], 0⟩])
  else if at_ = 2 then (if x = 91 then ((3, ⟨#[]⟩), []) else if 48 ≤ x ∧ x < 127 then ((0, ⟨#[]⟩), [⟨4, 0, [], x⟩]) else ((0, ⟨#[]⟩), [inv]))
  else if x < 64 then ((3, t ++ strOfNums [x]), []) else if x < 127 then csi t x (params t) else ((0, ⟨#[]⟩), [inv])
/-- What a byte asks for, and where one stands then. -/
def feed (p : Nat × ByteArray) (x : Int) : (Nat × ByteArray) × List Ac :=
  if p.1 = 0 then ground x else if p.1 = 1 then inRune p.2 x else inSeq p.1 p.2 x
/-- Where a parser may stand, k bytes having been fed. -/
def StOk (k : Nat) (p : Nat × ByteArray) : Prop :=
  (p.1 = 0 ∧ p.2.size = 0) ∨ (p.1 = 1 ∧ 0 < p.2.size ∧ p.2.size ≤ 3 ∧ 128 ≤ (p.2.get! 0).toNat) ∨ (p.1 = 2 ∧ p.2.size = 0) ∨ (p.1 = 3 ∧ p.2.size ≤ k)
/-- The document's bytes behind which one stands. -/
def tOf (p : Nat × ByteArray) : ByteArray := if p.1 = 0 then ⟨#[]⟩ else if p.1 = 1 then p.2 else if p.1 = 2 then ⟨#[27]⟩ else ⟨#[27, 91]⟩ ++ p.2

theorem one_size (x : Int) : (strOfNums [x]).size = 1 := rfl
theorem one_get {x : Int} (h0 : 0 ≤ x) (h1 : x ≤ 255) : (((strOfNums [x]).get! 0).toNat : Int) = x := by
  show (((⟨#[UInt8.ofNat x.toNat]⟩ : ByteArray).get! 0).toNat : Int) = x
  have : (⟨#[UInt8.ofNat x.toNat]⟩ : ByteArray).get! 0 = UInt8.ofNat x.toNat := rfl
  rw [this, ofNat_toNat (by omega)]
  omega
theorem join_get0 {t u : ByteArray} (h : 0 < t.size) : (t ++ u).get! 0 = t.get! 0 := by
  rw [get_of (by rw [join_size]; omega), get_of h, ByteArray.getElem_append_left h]
theorem beg_lt {s : ByteArray} (h : begB s = true) : 0 < s.size ∧ s.size ≤ 3 ∧ 128 ≤ (s.get! 0).toNat := by
  unfold begB at h
  have h := of_decide_eq_true h
  have := need_le (s.get! 0).toNat
  refine ⟨h.1, by omega, ?_⟩
  have h2 := h.2.1
  unfold needN at h2
  revert h2
  (repeat' split) <;> intro h2 <;> omega
theorem size0 {s : ByteArray} (h : s.size = 0) : s = ⟨#[]⟩ := by
  cases s with | mk d => exact congrArg _ (Array.eq_empty_of_size_eq_zero h)
theorem ground_ok (k : Nat) (x : Int) : StOk k (ground x).1 := by
  unfold ground
  (repeat' split)
  · exact .inr (.inr (.inl ⟨rfl, rfl⟩))
  · exact .inl ⟨rfl, rfl⟩
  · exact .inl ⟨rfl, rfl⟩
  · rename_i h
    exact .inr (.inl ⟨rfl, beg_lt h⟩)
  · exact .inl ⟨rfl, rfl⟩
theorem feed_ok {k : Nat} {p : Nat × ByteArray} {x : Int} (h : StOk k p) : StOk (k + 1) (feed p x).1 := by
  unfold feed
  split
  · exact ground_ok _ _
  split
  · unfold inRune
    (repeat' split)
    · exact .inl ⟨rfl, rfl⟩
    · rename_i h2
      exact .inr (.inl ⟨rfl, beg_lt h2⟩)
    · exact ground_ok _ _
  · rename_i h0 h1
    have hs : p.1 = 2 ∧ p.2.size = 0 ∨ p.1 = 3 ∧ p.2.size ≤ k := by
      rcases h with h | h | h | h
      · exact absurd h.1 h0
      · exact absurd h.1 h1
      · exact .inl h
      · exact .inr h
    unfold inSeq
    (repeat' split)
    · exact .inr (.inr (.inl ⟨rfl, rfl⟩))
    · exact .inl ⟨rfl, rfl⟩
    · rcases hs with hs | hs
      · exact .inr (.inr (.inl hs))
      · exact .inr (.inr (.inr ⟨hs.1, by dsimp only; omega⟩))
    · exact .inr (.inr (.inr ⟨rfl, by show (0 : Nat) ≤ _; omega⟩))
    · exact .inl ⟨rfl, rfl⟩
    · exact .inl ⟨rfl, rfl⟩
    · exact .inr (.inr (.inr ⟨rfl, by rw [join_size, one_size]; omega⟩))
    · unfold csi
      split <;> exact .inl ⟨rfl, rfl⟩
    · exact .inl ⟨rfl, rfl⟩
end Go.Proofs.YtmemdhmjhckmaaaDoor
namespace Go.Proofs.YtmemdhmjhckmaaaDoor
open Go.RowKit

theorem ret_beg {k k' : IntKind} {a b a' b' : Int} (h : a = b) (h' : a' = b') : Ending.returned (.tuple #[.int k a, .int k' a']) = .returned (.tuple #[.int k b, .int k' b']) := by rw [h, h']

set_option maxHeartbeats 400000 in
theorem begin_any (c : Int) (w : World) (h0 : 0 ≤ c) (h1 : c ≤ 255) :
    Calls Tryd.prog 83 #[.int .u8 c] w fun e w' => e = .returned (.tuple #[.int .i64 (begN c), .int .i32 (begR c)]) ∧ w = w' := by
  go_enter Tryd.func83, Tryd.ntmps83
  go_wp2
  all_goals go_ret2
  all_goals exact ⟨ret_beg (by unfold begN; (repeat' split) <;> omega) (by unfold begR; (repeat' split) <;> omega), rfl⟩
end Go.Proofs.YtmemdhmjhckmaaaDoor
namespace Go.Proofs.YtmemdhmjhckmaaaDoor
open Go.RowKit

theorem and63 (b : UInt8) : bits .and .u8 (b.toNat : Int) 63 = ((b.toNat % 64 : Nat) : Int) := by
  have := u8_and_nat b.toNat 63 b.toNat_lt (by omega)
  rw [show ((63 : Nat) : Int) = 63 from rfl] at this
  rw [this, show (63 : Nat) = 2 ^ 6 - 1 from rfl, Nat.and_two_pow_sub_one_eq_mod]
theorem begin_x (c : Int) (w : World) (h0 : 0 ≤ c) (h1 : c ≤ 255) :
    Calls Tryd.prog 83 #[.int .u8 c] w fun e w' => ∃ (n : Nat) (r : Int), Hid (n = begN c ∧ r = begR c) ∧ n ≤ 4 ∧ e = .returned (.tuple #[.int .i64 n, .int .i32 r]) ∧ w = w' :=
  (begin_any c w h0 h1).mono fun _ _ ⟨he, hw⟩ => ⟨_, _, ⟨rfl, rfl⟩, begN_le c, he, hw⟩

theorem ret_nxt {p q : Int × Nat × Bool} (h : p = q) : Ending.returned (.tuple #[.int .i32 q.1, .int .i64 q.2.1, .bool q.2.2]) = .returned (.tuple #[.int .i32 p.1, .int .i64 p.2.1, .bool p.2.2]) := by rw [h]
theorem good_end {s : ByteArray} {i n : Nat} {x : Int} (hi : i < s.size) (hn : n = begN (s[i].toNat : Int)) (h0 : 1 ≤ n) (h1 : i + n ≤ s.size) (hx : x = acc s i n) (hq : ((putS x).toList == (s.extract i (i + n)).toList) = true) :
    Ending.returned (.tuple #[.int .i32 x, .int .i64 n, .bool true]) = .returned (.tuple #[.int .i32 (nxt s i).1, .int .i64 (nxt s i).2.1, .bool (nxt s i).2.2]) := by
  subst hx
  rw [nxt_good hi hn h0 h1 (toList_eq hq)]
theorem bad_end {s : ByteArray} {i n : Nat} {x : Int} (hi : i < s.size) (hn : n = begN (s[i].toNat : Int)) (hx : x = acc s i n) (hq : ((putS x).toList == (s.extract i (i + n)).toList) = false) :
    Ending.returned (.tuple #[.int .i32 65533, .int .i64 1, .bool false]) = .returned (.tuple #[.int .i32 (nxt s i).1, .int .i64 (nxt s i).2.1, .bool (nxt s i).2.2]) := by
  subst hx
  rw [nxt_bad hi hn (.inr (.inr (toList_ne hq)))]
  rfl

set_option maxHeartbeats 400000 in
theorem rnext_any (s : ByteArray) (i : Nat) (w : World) (hs : s.size ≤ 1048576) (hi : i < s.size) :
    Calls Tryd.prog 58 #[.string s, .int .i64 i] w fun e w' => e = .returned (.tuple #[.int .i32 (nxt s i).1, .int .i64 (nxt s i).2.1, .bool (nxt s i).2.2]) ∧ Below w.heap.size w w' := by
  go_enter Tryd.func58, Tryd.ntmps58
  go_wp2_with (go_at_call 83; refine (begin_x _ _ (by omega) (by have := s[i].toNat_lt; omega)).mono ?_; rintro e w' ⟨n, r0, HB, hn, rfl, rfl⟩)
  go_loop [8, 9] (fun r j => ∃ (k : Nat) (x : Int), 1 ≤ k ∧ (k ≤ n ∨ k = 1) ∧ i + k ≤ s.size ∧ j = .int .i64 k ∧ r = .int .i32 x ∧ Hid (x = acc s i k)) (fun _ j => s.size - (intOf j).toNat)
  case atStart => exact ⟨1, _, by omega, by omega, by omega, rfl, rfl, HB.out.2.trans (acc_one hi).symm⟩
  case round =>
    obtain ⟨k, x, h1, hk, hik, rfl, rfl, HX⟩ := hrel
    by_cases hlt : k < n ∧ i + k < s.size
    · obtain ⟨hlt, hlt2⟩ := hlt
      have hbd := acc_bd s i k (by omega)
      rw [← HX.out] at hbd
      obtain ⟨hbd0, hbd1⟩ := hbd
      have h63 := and63
      go_wp2
      go_round
      case rel => exact ⟨k + 1, _, by omega, by omega, by omega, by go_num, rfl, rel_step HX.out h1 hlt2⟩
      case measure => simp [intOf]; omega
    · by_cases h0 : n = 0
      · subst h0
        go_wp2_with (go_at_call 84; refine (put_any _ _).mono ?_; rintro e w' ⟨rfl, hbel⟩)
        go_ret3
        exact ⟨ret_nxt (nxt_bad hi HB.out.1 (.inl rfl)), hbel⟩
      · by_cases h2 : i + n ≤ s.size
        · obtain rfl : k = n := by omega
          go_wp2_with (go_at_call 84; refine (put_any _ _).mono ?_; rintro e w' ⟨rfl, hbel⟩)
          · go_ret3
            have hq : ((putS x).toList == (s.extract i (i + k)).toList) = true := by assumption
            exact ⟨good_end hi HB.out.1 h1 h2 HX.out hq, hbel⟩
          · go_ret3
            have hq : ((putS x).toList == (s.extract i (i + k)).toList) = false := by assumption
            exact ⟨bad_end hi HB.out.1 HX.out hq, hbel⟩
        · go_wp2_with (go_at_call 84; refine (put_any _ _).mono ?_; rintro e w' ⟨rfl, hbel⟩)
          go_ret3
          exact ⟨ret_nxt (nxt_bad hi HB.out.1 (.inr (.inl h2))), hbel⟩
theorem dec_in (s : ByteArray) (pos : Nat) (h : pos < s.size) : 1 ≤ (Utf8.decode s pos).2 ∧ pos + (Utf8.decode s pos).2 ≤ s.size := by
  refine ⟨Lib.decode_width_pos s pos h, ?_⟩
  have e := nxt_dec s pos h
  have e2 : (nxt s pos).2.1 = (Utf8.decode s pos).2 := by rw [e, dec3]
  rw [← e2]
  by_cases c : 0 < begN ((s.get! pos).toNat : Int) ∧ pos + begN ((s.get! pos).toNat : Int) ≤ s.size ∧ putS (acc s pos (begN ((s.get! pos).toNat : Int))) = s.extract pos (pos + begN ((s.get! pos).toNat : Int))
  · unfold nxt; dsimp only; rw [if_pos c]; dsimp only; exact c.2.1
  · unfold nxt; dsimp only; rw [if_neg c]; dsimp only; omega

/-- limnerref01.Next at a place that lies in the text: a rune. -/
theorem rnext_ok (s : ByteArray) (i : Nat) (w : World) (hs : s.size ≤ 1048576) (hi : i < s.size) (hok : (dec3 s i).2.2 = true) :
    Calls Tryd.prog 58 #[.string s, .int .i64 i] w fun e w' => e = .returned (.tuple #[.int .i32 (Utf8.decode s i).1, .int .i64 (Utf8.decode s i).2, .bool true]) ∧ Below w.heap.size w w' :=
  (rnext_any s i w hs hi).mono fun e w' ⟨he, hw⟩ => ⟨by rw [he, nxt_dec s i hi, hok]; rfl, hw⟩
/-- limnerref01.Next at a place that lies in the text: a byte that is of none. -/
theorem rnext_no (s : ByteArray) (i : Nat) (w : World) (hs : s.size ≤ 1048576) (hi : i < s.size) (hok : (dec3 s i).2.2 = false) :
    Calls Tryd.prog 58 #[.string s, .int .i64 i] w fun e w' => e = .returned (.tuple #[.int .i32 (Utf8.decode s i).1, .int .i64 (Utf8.decode s i).2, .bool false]) ∧ Below w.heap.size w w' :=
  (rnext_any s i w hs hi).mono fun e w' ⟨he, hw⟩ => ⟨by rw [he, nxt_dec s i hi, hok]; rfl, hw⟩
theorem dec_no {s : ByteArray} {i : Nat} (h : (dec3 s i).2.2 = false) : (Utf8.decode s i).1 = 65533 ∧ (Utf8.decode s i).2 = 1 := by
  simpa [dec3] using h

end Go.Proofs.YtmemdhmjhckmaaaDoor
namespace Go.Proofs.YtmemdhmjhckmaaaDoor
open Go.RowKit

theorem own_formA {w : World} {B : Nat} {e : TypeId} {k : Nat} {v : Value} {n : Nat} {xs : List Value} (h : w.ownsRow B e k v n xs) : ∃ A c, v = .slice A n c := by
  rcases h.2 with ⟨rfl, rfl⟩ | ⟨g, cap, cur, rfl, _⟩
  · exact ⟨_, _, rfl⟩
  · exact ⟨_, _, rfl⟩
theorem own_belowA {w W : World} {B : Nat} {e : TypeId} {k : Nat} {v : Value} {n : Nat} {xs : List Value} (h : w.ownsRow B e k v n xs) (hb : Below w.heap.size w W) : W.ownsRow B e k v n xs := by
  refine ⟨h.1, ?_⟩
  rcases h.2 with h0 | ⟨g, cap, cur, rfl, hg, hh, h1, h2, h3, h4⟩
  · exact .inl h0
  · exact .inr ⟨g, cap, cur, rfl, hg, (hb.block g (Array.getElem?_eq_some_iff.1 hh).1).trans hh, h1, h2, h3, h4⟩

/-- The block's elements are of type t. -/
def TyA (w : World) (b : Nat) (t : TypeId) : Prop := ∃ cs f, w.heap[b]? = some (.cells cs t f)
theorem TyA.below {w W : World} {b : Nat} {t : TypeId} (h : TyA w b t) (hb : Below w.heap.size w W) : TyA W b t := by
  obtain ⟨cs, f, hh⟩ := h
  exact ⟨cs, f, (hb.block b (Array.getElem?_eq_some_iff.1 hh).1).trans hh⟩
/-- The numbers that a slice holds. -/
def NumsV (W : World) (v : Value) (l : List Int) : Prop :=
  ∃ A cap, v = .slice A l.length cap ∧ ∀ (j : Nat) (x : Int), l[j]? = some x → ∃ b o, A = some ⟨b, o, none⟩ ∧ TyA W b 3 ∧ W.cell? ⟨b, o + j, none⟩ = some (.int .i64 x)
theorem NumsV.below {w W : World} {v : Value} {l : List Int} (h : NumsV w v l) (hb : Below w.heap.size w W) : NumsV W v l := by
  obtain ⟨A, cap, e, hc⟩ := h
  refine ⟨A, cap, e, fun j x hx => ?_⟩
  obtain ⟨b, o, ea, ht, hx⟩ := hc j x hx
  exact ⟨b, o, ea, ht.below hb, (hb.cell (p := ⟨b, o + j, none⟩) (World.block_lt_of_cell? _ _ hx)).trans hx⟩
theorem NumsV.nil (W : World) : NumsV W (.slice none 0 0) [] := ⟨none, 0, rfl, fun j x h => by simp at h⟩

def acCells (x : Value × Ac) : List Value := [.int .i64 x.2.kind, .int .i32 x.2.r, x.1, .int .u8 x.2.fin]
def flatA (M : List (Value × Ac)) : List Value := M.flatMap acCells
theorem flatA_len (M : List (Value × Ac)) : (flatA M).length = M.length * 4 := by
  unfold flatA
  induction M with
  | nil => rfl
  | cons a l ih => simp only [List.flatMap_cons, List.length_append, List.length_cons, acCells, List.length_nil] at ih ⊢; omega
theorem flatA_app (M N : List (Value × Ac)) : flatA (M ++ N) = flatA M ++ flatA N := by simp [flatA]
theorem flatA_at (M : List (Value × Ac)) (j : Nat) (x : Value × Ac) (h : M[j]? = some x) (i : Nat) (hi : i < 4) : (flatA M)[j * 4 + i]? = (acCells x)[i]? := by
  induction M generalizing j with
  | nil => simp at h
  | cons a l ih =>
    unfold flatA at ih ⊢
    rw [List.flatMap_cons]
    cases j with
    | zero =>
      obtain rfl : a = x := by simpa using h
      rw [List.getElem?_append_left (by simp [acCells]; omega), Nat.zero_mul, Nat.zero_add]
    | succ j =>
      rw [List.getElem?_append_right (by simp [acCells]; omega), show (j + 1) * 4 + i - (acCells a).length = j * 4 + i by simp [acCells]; omega]
      exact ih j (by simpa using h)
/-- The block's elements take four cells. -/
def FourA (W : World) (b : Nat) : Prop := ∃ E, TyA W b E ∧ Tryd.prog.cellsOf E = 4
theorem FourA.below {w W : World} {b : Nat} (h : FourA w b) (hb : Below w.heap.size w W) : FourA W b := by
  obtain ⟨E, h1, h2⟩ := h
  exact ⟨E, h1.below hb, h2⟩
/-- A slice that reads as these actions. -/
def ActsV (W : World) (v : Value) (L : List Ac) : Prop :=
  ∃ (A : Option Addr) (cap : Nat) (M : List (Value × Ac)), v = .slice A L.length cap ∧ M.map (·.2) = L ∧ (L = [] → A = none ∧ cap = 0) ∧ L.length ≤ cap ∧ (∀ x ∈ M, NumsV W x.1 x.2.ps ∧ x.1.oneCell' = true) ∧ (∀ (j : Nat) (u : Value), (flatA M)[j]? = some u → ∃ b o, A = some ⟨b, o, none⟩ ∧ W.cell? ⟨b, o + j, none⟩ = some u) ∧ ∀ b o, A = some ⟨b, o, none⟩ → FourA W b
theorem ActsV.below {w W : World} {v : Value} {L : List Ac} (h : ActsV w v L) (hb : Below w.heap.size w W) : ActsV W v L := by
  obtain ⟨A, cap, M, e, em, h0, hcap, hn, hc, ht⟩ := h
  refine ⟨A, cap, M, e, em, h0, hcap, fun x hx => ⟨(hn x hx).1.below hb, (hn x hx).2⟩, fun j u hu => ?_, fun b o e => (ht b o e).below hb⟩
  obtain ⟨b, o, ea, hx⟩ := hc j u hu
  exact ⟨b, o, ea, (hb.cell (p := ⟨b, o + j, none⟩) (World.block_lt_of_cell? _ _ hx)).trans hx⟩
theorem ActsV.nil (W : World) : ActsV W (.slice none 0 0) [] := ⟨none, 0, [], rfl, rfl, fun _ => ⟨rfl, rfl⟩, by simp, fun x h => by simp at h, fun j u h => by simp [flatA] at h, fun b o e => by cases e⟩
theorem NumsV.one {W : World} {v : Value} {l : List Int} (h : NumsV W v l) : v.oneCell' = true := by
  obtain ⟨A, cap, rfl, _⟩ := h
  rfl
/-- One action that lies in a block of its own. -/
theorem ActsV.one {W : World} {g : Nat} {x : Value × Ac} (hty : FourA W g) (hn : NumsV W x.1 x.2.ps) (h : ∀ (j : Nat) (u : Value), (acCells x)[j]? = some u → W.cell? ⟨g, j, none⟩ = some u) : ActsV W (.slice (some ⟨g, 0, none⟩) 1 1) [x.2] :=
  ⟨some ⟨g, 0, none⟩, 1, [x], rfl, rfl, (fun e => by cases e), by simp, fun y hy => (by simpa using hy : y = x) ▸ ⟨hn, hn.one⟩, fun j u hu => ⟨g, 0, rfl, by rw [Nat.zero_add]; exact h j u (by simpa [flatA] using hu)⟩, fun b o e => by injection e with e; injection e with e1 e2; rw [← e1]; exact hty⟩
theorem acts_at {W : World} {A : Option Addr} {n cap : Nat} {L : List Ac} (h : ActsV W (.slice A n cap) L) {j : Nat} {a : Ac} (hj : L[j]? = some a) :
    ∃ b o pv, A = some ⟨b, o, none⟩ ∧ NumsV W pv a.ps ∧ W.cell? ⟨b, o + j * 4, none⟩ = some (.int .i64 a.kind) ∧ W.cell? ⟨b, o + j * 4 + 1, none⟩ = some (.int .i32 a.r) ∧ W.cell? ⟨b, o + j * 4 + 2, none⟩ = some pv ∧ W.cell? ⟨b, o + j * 4 + 3, none⟩ = some (.int .u8 a.fin) := by
  obtain ⟨A', cap', M, e, em, h0, hcap, hn, hc, -⟩ := h
  injection e with e1 e2 e3
  subst e1
  rw [← em, List.getElem?_map, Option.map_eq_some_iff] at hj
  obtain ⟨x, hx, rfl⟩ := hj
  have hm : x ∈ M := List.mem_of_getElem? hx
  have g0 := flatA_at M j x hx 0 (by omega)
  have g1 := flatA_at M j x hx 1 (by omega)
  have g2 := flatA_at M j x hx 2 (by omega)
  have g3 := flatA_at M j x hx 3 (by omega)
  obtain ⟨b, o, rfl, c0⟩ := hc _ _ g0
  obtain ⟨b1, o1, e1, c1⟩ := hc _ _ g1
  obtain ⟨b2, o2, e2, c2⟩ := hc _ _ g2
  obtain ⟨b3, o3, e3, c3⟩ := hc _ _ g3
  injection e1 with e1; injection e1 with e1 e1'; subst e1 e1'
  injection e2 with e2; injection e2 with e2 e2'; subst e2 e2'
  injection e3 with e3; injection e3 with e3 e3'; subst e3 e3'
  exact ⟨b, o, x.1, rfl, (hn x hm).1, c0, c1, c2, c3⟩

/-- A slice of actions that the call made: its elements' type is E. -/
def OwnA (W : World) (B : Nat) (E : TypeId) (v : Value) (L : List Ac) : Prop :=
  ∃ M : List (Value × Ac), M.map (·.2) = L ∧ W.ownsRow B E 4 v M.length (flatA M) ∧ ∀ x ∈ M, NumsV W x.1 x.2.ps ∧ x.1.oneCell' = true
theorem OwnA.nil (W : World) (B : Nat) (E : TypeId) : OwnA W B E (.slice none 0 0) [] := ⟨[], rfl, World.ownsRow_nil _ _ _ _, fun x h => by simp at h⟩
theorem OwnA.below {w W : World} {B : Nat} {E : TypeId} {v : Value} {L : List Ac} (h : OwnA w B E v L) (hb : Below w.heap.size w W) : OwnA W B E v L := by
  obtain ⟨M, em, hr, hn⟩ := h
  exact ⟨M, em, own_belowA hr hb, fun x hx => ⟨(hn x hx).1.below hb, (hn x hx).2⟩⟩
theorem OwnA.acts {W : World} {B : Nat} {E : TypeId} {v : Value} {L : List Ac} (h : OwnA W B E v L) (h0 : L = [] → v = .slice none 0 0) (hE : Tryd.prog.cellsOf E = 4 := by kernel_rfl) : ActsV W v L := by
  obtain ⟨M, rfl, hr, hn⟩ := h
  have hr0 := hr
  rcases hr.2 with ⟨rfl, hz⟩ | ⟨g, cap, cur, rfl, hg, hh, h1, h2, h3, h4⟩
  · obtain rfl := List.length_eq_zero_iff.1 hz
    exact ActsV.nil W
  · refine ⟨some ⟨g, 0, none⟩, cap, M, by simp, rfl, fun e => ?_, by simpa using h1, hn, fun j u hu => ⟨g, 0, rfl, ?_⟩, fun b o e => by injection e with e; injection e with e1 e2; rw [← e1]; exact ⟨E, ⟨_, _, hh⟩, hE⟩⟩
    · have := h0 e; cases this
    · have hj := (List.getElem?_eq_some_iff.1 hu).1
      rw [Nat.zero_add, hr0.cellAt j (by rw [← hr.1]; exact hj), hu]
theorem OwnA.form {W : World} {B : Nat} {E : TypeId} {v : Value} {L : List Ac} (h : OwnA W B E v L) : ∃ A c, v = .slice A L.length c := by
  obtain ⟨M, rfl, hr, hn⟩ := h
  obtain ⟨A, c, rfl⟩ := own_formA hr
  exact ⟨A, c, by simp⟩
/-- A literal of one action is the call's own. -/
theorem OwnA.lit {W : World} {B g : Nat} {E : TypeId} {x : Value × Ac} (hg : B ≤ g) (hh : W.heap[g]? = some (.cells (acCells x).toArray E (0, 0))) (hn : NumsV W x.1 x.2.ps) : OwnA W B E (.slice (some ⟨g, 0, none⟩) 1 1) [x.2] :=
  ⟨[x], rfl, ⟨by simp [flatA, acCells], .inr ⟨g, 1, (acCells x).toArray, rfl, hg, hh, Nat.le_refl _, by unfold maxLen; omega, by simp [acCells], by simp [flatA, acCells]⟩⟩, fun y hy => (by simpa using hy : y = x) ▸ ⟨hn, hn.one⟩⟩
theorem grown_nums {w W : World} {row : Option Nat} {v : Value} {l : List Int} (h : NumsV w v l) (hg : w.grownBy W row) (hr : ∀ k, row = some k → ¬ TyA w k 3) : NumsV W v l := by
  obtain ⟨A, cap, e, hc⟩ := h
  refine ⟨A, cap, e, fun j x hx => ?_⟩
  obtain ⟨b, o, ea, ⟨cs, f, ht⟩, hx⟩ := hc j x hx
  have hb := hg.block b (Array.getElem?_eq_some_iff.1 ht).1 (fun er => hr b er.symm ⟨cs, f, ht⟩)
  exact ⟨b, o, ea, ⟨cs, f, hb.trans ht⟩, (World.cell?_of_block hb).trans hx⟩

theorem TyA.setCell {W : World} {b : Nat} {t : TypeId} (h : TyA W b t) (a : Addr) (v : Value) : TyA (W.setCell a v) b t := by
  obtain ⟨c, fz, h⟩ := h
  unfold World.setCell
  split <;> simp only [TyA, Array.getElem?_setIfInBounds, Array.getElem?_modify]
  all_goals
    split
    · rename_i e
      subst e
      simp_all
    · exact ⟨c, fz, h⟩
theorem TyA.new (w : World) (c : Array Value) (t : TypeId) : TyA (w.alloc (.cells c t)) w.heap.size t := ⟨c, _, heap_alloc_new w _⟩
theorem TyA.drewN {W : World} {b : Nat} {t : TypeId} (h : TyA W b t) (n : Nat) : TyA (W.drewN n) b t := h
theorem grown_setA (w : World) (p : Addr) (v : Value) : w.grownBy (w.setCell p v) (some p.block) := by
  have h2 : (w.setCell p v).heap.size = w.heap.size := by
    unfold World.setCell
    split <;> simp
  exact ⟨by unfold World.setCell; split <;> rfl, by unfold World.setCell; split <;> rfl, by unfold World.setCell; split <;> rfl, by omega, fun k _ hne => Below.heap_setCell w p v k (fun e => hne (by rw [e]))⟩
/-- A store into another block. -/
theorem OwnA.set {W : World} {B : Nat} {E : TypeId} {v : Value} {L : List Ac} (h : OwnA W B E v L) {p : Addr} {T : TypeId} (hp : TyA W p.block T) (h1 : T ≠ 3) (h2 : T ≠ E) (u : Value) : OwnA (W.setCell p u) B E v L := by
  obtain ⟨M, em, hr, hn⟩ := h
  have hg := grown_setA W p u
  have hno : ∀ k, some p.block = some k → ¬ TyA W k 3 := by
    rintro k e ⟨cs, f, hk⟩
    injection e with e
    subst e
    obtain ⟨c, fz, hh⟩ := hp
    rw [hh] at hk
    injection hk with hk
    injection hk with _ hk _
    exact h1 hk
  refine ⟨M, em, ⟨hr.1, ?_⟩, fun x hx => ⟨grown_nums (hn x hx).1 hg hno, (hn x hx).2⟩⟩
  rcases hr.2 with h0 | ⟨g, cap, cur, rfl, hg2, hh, r⟩
  · exact .inl h0
  · refine .inr ⟨g, cap, cur, rfl, hg2, (hg.block g (Array.getElem?_eq_some_iff.1 hh).1 (fun e => ?_)).trans hh, r⟩
    injection e with e
    subst e
    obtain ⟨c, fz, hp⟩ := hp
    rw [hh] at hp
    injection hp with hp
    injection hp with _ hp _
    exact h2 hp.symm

set_option maxRecDepth 100000 in
/-- What append of some actions to one's own does. -/
theorem acts_run (W : World) (B : Nat) (hB : B ≤ W.heap.size) (T E ty : TypeId) (z : Value) (hT : Tryd.prog.underlying T = some (.slice E)) (hE : E ≠ 3) (hi0 : (Tryd.prog.info? E).map (fun i => (i.zero, i.size, i.bytes)) = some (some z, 4, 48)) (hz : z.cells.size = 4)
    (v nv : Value) (L N : List Ac) (hown : OwnA W B E v L) (hnv : ActsV W nv N) (hlen : L.length + N.length ≤ 1000000) :
    ∃ v' w', (Builtin.append_ #[T, T] ty #[v, nv]).run Tryd.prog W = .ok v' w' ∧ OwnA w' B E v' (L ++ N) ∧ Below B W w' ∧ (v' = .slice none 0 0 ↔ v = .slice none 0 0 ∧ N = []) := by
  obtain ⟨i0, hi, hz0, hz1, hz2⟩ := info_parts hi0
  obtain ⟨M, rfl, hr, hn⟩ := hown
  obtain ⟨A, cap, M2, rfl, rfl, hA0, hcap, hn2, hc, -⟩ := hnv
  by_cases h0 : M2 = []
  · subst h0
    obtain ⟨rfl, rfl⟩ := hA0 rfl
    have hrun := run_append_owned_none (P := Tryd.prog) (w := W) B T ty E i0 4 hT hi v M.length (flatA M) hr
    exact ⟨v, W, by simpa using hrun, ⟨M, by simp, hr, hn⟩, Below.refl _ _, by simp⟩
  · have hpos : 0 < M2.length := List.length_pos_iff.2 h0
    have hz9 : 0 < (flatA M2).length := by rw [flatA_len]; omega
    obtain ⟨b, o, rfl, _⟩ := hc 0 _ (List.getElem?_eq_getElem hz9)
    obtain ⟨v', w', hrun, r1, r2, r3⟩ := run_append_own (P := Tryd.prog) W B T ty E i0 z 4 48 hT hi hz0 hz1 hz2 hz (by decide) v M.length (flatA M) hr ⟨b, o, none⟩ M2.length cap (flatA M2) (flatA_len M2) (fun j u hu => by
        obtain ⟨b', o', e, hx⟩ := hc j u hu
        injection e with e; injection e with e e'; subst e e'
        rw [Addr.add_lit]; exact hx) (fun u hu => by
        unfold flatA at hu
        rw [List.mem_flatMap] at hu
        obtain ⟨x, hx, hu⟩ := hu
        have h1 := (hn2 x hx).2
        simp only [acCells, List.mem_cons, List.not_mem_nil, or_false] at hu
        rcases hu with rfl | rfl | rfl | rfl
        · rfl
        · rfl
        · exact h1
        · rfl) (by unfold maxLen; simp at hlen; omega) (by simp at hlen; omega) hB
    have hblk : ∀ k, v.ownBlock = some k → ¬ TyA W k 3 := by
      intro k hk ⟨cs, f, ht⟩
      rcases hr.2 with ⟨rfl, _⟩ | ⟨g, cap', cur, rfl, hg, hh, _⟩
      · cases hk
      · have e9 : some g = some k := hk
        injection e9 with e9
        subst e9
        rw [hh] at ht
        injection ht with ht
        injection ht with _ ht _
        exact hE ht
    refine ⟨v', w', by simpa using hrun, ⟨M ++ M2, by simp, by rw [flatA_app, List.length_append]; exact r1, fun x hx => ?_⟩, ⟨r2.os, r2.tape, r2.output, r2.size, fun k hk => r2.block k (by omega) (fun e => ?_)⟩, ?_⟩
    · rcases List.mem_append.1 hx with hx | hx
      · exact ⟨grown_nums (hn x hx).1 r2 hblk, (hn x hx).2⟩
      · exact ⟨grown_nums (hn2 x hx).1 r2 hblk, (hn2 x hx).2⟩
    · have := hr.lt k e.symm
      omega
    · rw [r3]
      constructor
      · rintro ⟨rfl, h⟩; exact ⟨rfl, by simp at h; exact absurd h h0⟩
      · rintro ⟨rfl, h⟩; simp at h; exact absurd h h0
/-- At the operation. -/
theorem wpList_acts {ops : Array Oper} {rest : List Oper} {o : Oper} {a : Act} {Q : Exit → Act → World → Prop} (W : World) (hgd : o.guard = none) (s x : Operand) (T E : TypeId) (z : Value)
    (hop : o.op = Op.call { callee := Callee.builtin Builtin.append, args := #[s, x], argTypes := #[T, T] })
    (B : Nat) (hB : B ≤ W.heap.size) (hT : Tryd.prog.underlying T = some (.slice E)) (hE : E ≠ 3) (hi0 : (Tryd.prog.info? E).map (fun i => (i.zero, i.size, i.bytes)) = some (some z, 4, 48)) (hz : z.cells.size = 4)
    (v nv : Value) (L N : List Ac) (hs : a.eval s = v) (hx : a.eval x = nv) (hown : OwnA W B E v L) (hnv : ActsV W nv N) (hlen : L.length + N.length ≤ 1000000)
    (hK : ∀ v' w', OwnA w' B E v' (L ++ N) → Below B W w' → (v' = .slice none 0 0 ↔ v = .slice none 0 0 ∧ N = []) → wpList Tryd.prog ops Q rest (a.put o.dst v') w') :
    wpList Tryd.prog ops Q (o :: rest) a W := by
  refine wpList_plain hgd fun K hK' => ?_
  obtain ⟨v', w', hrun, h1, h2, h3⟩ := acts_run W B hB T E o.type z hT hE hi0 hz v nv L N hown hnv hlen
  unfold Oper.wp
  simp [execOp, hop, resolve, invoke, builtin, hs, hx, hrun, Result.andThen]
  exact hK' _ _ (hK v' w' h1 h2 h3)
/-- As one step of a region that draws its order. -/
theorem step_acts {ops : Array Oper} {o : Oper} {a : Act} {W : World} {K : Act → World → Prop} {Q : Exit → Act → World → Prop} {X : Prop} (hgd : o.guard = none) (s x : Operand) (T E : TypeId) (z : Value)
    (hop : o.op = Op.call { callee := Callee.builtin Builtin.append, args := #[s, x], argTypes := #[T, T] })
    (B : Nat) (hB : B ≤ W.heap.size) (hT : Tryd.prog.underlying T = some (.slice E)) (hE : E ≠ 3) (hi0 : (Tryd.prog.info? E).map (fun i => (i.zero, i.size, i.bytes)) = some (some z, 4, 48)) (hz : z.cells.size = 4)
    (v nv : Value) (L N : List Ac) (hs : a.eval s = v) (hx : a.eval x = nv) (hown : OwnA W B E v L) (hnv : ActsV W nv N) (hlen : L.length + N.length ≤ 1000000)
    (hK : ∀ v' w', OwnA w' B E v' (L ++ N) → Below B W w' → (v' = .slice none 0 0 ↔ v = .slice none 0 0 ∧ N = []) → K (a.put o.dst v') w') :
    if Region.wanted o (yielded ops a.tmps) = true then Oper.wp Tryd.prog o a W K Q else X := by
  have hw : Region.wanted o (yielded ops a.tmps) = true := by simp [Region.wanted, hgd]
  rw [if_pos hw]
  obtain ⟨v', w', hrun, h1, h2, h3⟩ := acts_run W B hB T E o.type z hT hE hi0 hz v nv L N hown hnv hlen
  unfold Oper.wp
  simp [execOp, hop, resolve, invoke, builtin, hs, hx, hrun, Result.andThen]
  exact hK v' w' h1 h2 h3

/-- A parser's state in a block of its own. -/
def StBox (W : World) (b : Nat) (x y : Value) : Prop :=
  W.cell? ⟨b, 0, none⟩ = some x ∧ W.cell? ⟨b, 1, none⟩ = some y ∧ W.frozen? ⟨b, 0, none⟩ = false ∧ W.frozen? ⟨b, 1, none⟩ = false ∧ TyA W b 54
theorem StBox.lt {W : World} {b : Nat} {x y : Value} (h : StBox W b x y) : b < W.heap.size := World.block_lt_of_cell? _ _ h.1
theorem StBox.below {w W : World} {b : Nat} {x y : Value} (h : StBox w b x y) (hb : Below w.heap.size w W) : StBox W b x y :=
  ⟨(hb.cell (p := ⟨b, 0, none⟩) h.lt).trans h.1, (hb.cell (p := ⟨b, 1, none⟩) h.lt).trans h.2.1, (hb.frozen (p := ⟨b, 0, none⟩) h.lt).trans h.2.2.1, (hb.frozen (p := ⟨b, 1, none⟩) h.lt).trans h.2.2.2.1, h.2.2.2.2.below hb⟩
theorem StBox.under {B : Nat} {w W : World} {b : Nat} {x y : Value} (h : StBox w b x y) (hb : Below B w W) (hl : b < B) : StBox W b x y := by
  obtain ⟨c, f, ht⟩ := h.2.2.2.2
  exact ⟨(hb.cell (p := ⟨b, 0, none⟩) hl).trans h.1, (hb.cell (p := ⟨b, 1, none⟩) hl).trans h.2.1, (hb.frozen (p := ⟨b, 0, none⟩) hl).trans h.2.2.1, (hb.frozen (p := ⟨b, 1, none⟩) hl).trans h.2.2.2.1, c, f, (hb.block b hl).trans ht⟩
theorem StBox.new (w : World) (x y : Value) : StBox (w.alloc (.cells #[x, y] 54)) w.heap.size x y := by
  refine ⟨by simp, by simp, by simp, by simp, TyA.new _ _ _⟩
theorem StBox.set {W : World} {b : Nat} {x y : Value} (h : StBox W b x y) (u v : Value) : StBox ((W.setCell ⟨b, 0, none⟩ u).setCell ⟨b, 1, none⟩ v) b u v := by
  obtain ⟨h0, h1, f0, f1, ht⟩ := h
  have e1 : (W.setCell ⟨b, 0, none⟩ u).cell? ⟨b, 1, none⟩ = some y := by simp [go_sem, h1]
  refine ⟨?_, World.cell?_setCell_same' _ _ _ (by rw [e1]; rfl), by simpa [go_sem] using f0, by simpa [go_sem] using f1, (ht.setCell _ _).setCell _ _⟩
  have e0 : (W.setCell ⟨b, 0, none⟩ u).cell? ⟨b, 0, none⟩ = some u := World.cell?_setCell_same' _ _ _ (by rw [h0]; rfl)
  simp [go_sem, e0]
/-- A store into another block. -/
theorem StBox.far {W : World} {b : Nat} {x y : Value} (h : StBox W b x y) (p : Addr) (hp : p.block ≠ b) (v : Value) : StBox (W.setCell p v) b x y := by
  obtain ⟨h0, h1, f0, f1, ht⟩ := h
  exact ⟨by rw [World.cell?_setCell_far _ _ _ _ hp, h0], by rw [World.cell?_setCell_far _ _ _ _ hp, h1], by simpa using f0, by simpa using f1, ht.setCell _ _⟩

theorem info_acP : (Tryd.prog.info? 72).map (fun i => (i.zero, i.size, i.bytes)) = some (some (.agg #[.int .i64 0, .int .i32 0, .slice none 0 0, .int .u8 0]), 4, 48) := by kernel_rfl
theorem info_acR : (Tryd.prog.info? 77).map (fun i => (i.zero, i.size, i.bytes)) = some (some (.agg #[.int .i64 0, .int .i32 0, .slice none 0 0, .int .u8 0]), 4, 48) := by kernel_rfl
end Go.Proofs.YtmemdhmjhckmaaaDoor
