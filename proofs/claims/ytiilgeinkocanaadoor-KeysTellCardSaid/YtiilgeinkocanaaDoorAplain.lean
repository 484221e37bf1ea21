/- Plain: what bytes ask of a terminal, by the bytes behind which one stands. No program in sight. -/
import Derived.Test.YtiilgeinkocanaaDoorUtf3
import Derived.Lib.DecodeN
namespace Go.Proofs.YtiilgeinkocanaaDoor

/-- How many bytes a rune has that begins so. -/
def needN (b : Nat) : Nat := if b < 194 then 1 else if b < 224 then 2 else if b < 240 then 3 else if b < 245 then 4 else 1
def loN (b : Nat) : Nat := if b = 224 then 160 else if b = 240 then 144 else 128
def hiN (b : Nat) : Nat := if b = 237 then 159 else if b = 244 then 143 else 191
/-- Are bytes a beginning of a rune, fewer than it has? -/
def begB (s : ByteArray) : Bool := decide (0 < s.size ∧ s.size < needN (s.get! 0).toNat ∧ (1 < s.size → loN (s.get! 0).toNat ≤ (s.get! 1).toNat ∧ (s.get! 1).toNat ≤ hiN (s.get! 0).toNat) ∧ (2 < s.size → 128 ≤ (s.get! 2).toNat ∧ (s.get! 2).toNat ≤ 191))
/-- Are they one rune's bytes? -/
def wholeB (s : ByteArray) : Bool := (dec3 s 0).2.2 && decide ((Utf8.decode s 0).2 = s.size)

theorem need_le (b : Nat) : 1 ≤ needN b ∧ needN b ≤ 4 := by unfold needN; (repeat' split) <;> omega

theorem whole_iff (s : ByteArray) (h : 2 ≤ s.size) : wholeB s = true ↔ s.size = needN (s.get! 0).toNat ∧ (loN (s.get! 0).toNat ≤ (s.get! 1).toNat ∧ (s.get! 1).toNat ≤ hiN (s.get! 0).toNat) ∧ (2 < s.size → 128 ≤ (s.get! 2).toNat ∧ (s.get! 2).toNat ≤ 191) ∧ (3 < s.size → 128 ≤ (s.get! 3).toNat ∧ (s.get! 3).toNat ≤ 191) := by
  have lb0 := (s.get! 0).toNat_lt
  have lb1 := (s.get! 1).toNat_lt
  have lb2 := (s.get! 2).toNat_lt
  have lb3 := (s.get! 3).toNat_lt
  have e : wholeB s = true ↔ (Utf8.decode s 0).2 = s.size := by
    unfold wholeB dec3
    simp only [Bool.and_eq_true, decide_eq_true_eq, Bool.not_eq_true', Bool.and_eq_false_iff, beq_eq_false_iff_ne]
    constructor
    · exact fun h => h.2
    · exact fun h => ⟨.inr (by omega), h⟩
  rw [e, Lib.decode_at]
  simp only [Nat.zero_add, Nat.sub_zero]
  generalize (s.get! 0).toNat = b0 at *
  generalize (s.get! 1).toNat = b1 at *
  generalize (s.get! 2).toNat = b2 at *
  generalize (s.get! 3).toNat = b3 at *
  generalize s.size = n at *
  unfold Lib.decodeN
  by_cases c1 : b0 < 128
  · rw [if_pos c1]
    constructor
    · intro h; dsimp only at h; omega
    · intro h; unfold needN at h; rw [if_pos (by omega)] at h; omega
  rw [if_neg c1]
  by_cases c2 : b0 < 194
  · have n1 : needN b0 = 1 := by unfold needN; rw [if_pos c2]
    rw [n1]
    constructor
    · intro h
      exfalso
      revert h
      (repeat' split) <;> intro h <;> dsimp only at h <;> omega
    · intro h; omega
  by_cases c3 : b0 < 224
  · have n1 : needN b0 = 2 := by unfold needN; rw [if_neg c2, if_pos c3]
    have n2 : loN b0 = 128 := by unfold loN; rw [if_neg (by omega), if_neg (by omega)]
    have n3 : hiN b0 = 191 := by unfold hiN; rw [if_neg (by omega), if_neg (by omega)]
    rw [n1, n2, n3]
    constructor
    · intro h
      revert h
      (repeat' split) <;> intro h <;> dsimp only at h <;> omega
    · rintro ⟨rfl, h1, h2, h3⟩
      rw [if_pos (by omega), if_pos (by omega)]
  by_cases c4 : b0 < 240
  · have n1 : needN b0 = 3 := by unfold needN; rw [if_neg c2, if_neg c3, if_pos c4]
    rw [n1]
    constructor
    · intro h
      revert h
      unfold loN hiN
      (repeat' split) <;> intro h <;> dsimp only at h <;> omega
    · rintro ⟨rfl, h1, h2, h3⟩
      have hb : 128 ≤ b1 ∧ b1 ≤ 191 := by
        revert h1
        unfold loN hiN
        (repeat' split) <;> intro h1 <;> omega
      rw [if_neg (by omega), if_pos (by omega)]
      revert h1
      unfold loN hiN
      (repeat' split) <;> intro h1 <;> first | rfl | omega
  by_cases c5 : b0 < 245
  · have n1 : needN b0 = 4 := by unfold needN; rw [if_neg c2, if_neg c3, if_neg c4, if_pos c5]
    rw [n1]
    constructor
    · intro h
      revert h
      unfold loN hiN
      (repeat' split) <;> intro h <;> dsimp only at h <;> omega
    · rintro ⟨rfl, h1, h2, h3⟩
      have hb : 128 ≤ b1 ∧ b1 ≤ 191 := by
        revert h1
        unfold loN hiN
        (repeat' split) <;> intro h1 <;> omega
      rw [if_neg (by omega), if_neg (by omega), if_pos (by omega)]
      revert h1
      unfold loN hiN
      (repeat' split) <;> intro h1 <;> first | rfl | omega
  · have n1 : needN b0 = 1 := by unfold needN; rw [if_neg c2, if_neg c3, if_neg c4, if_neg c5]
    rw [n1]
    constructor
    · intro h
      exfalso
      revert h
      (repeat' split) <;> intro h <;> dsimp only at h <;> omega
    · intro h; omega

/-- An action: its kind, rune, numbers, last byte. -/
structure Ac where
  kind : Int
  r : Int
  ps : List Int
  fin : Int
deriving DecidableEq
def inv : Ac := ⟨5, 0, [], 0⟩
/-- Numbers of a sequence: those that are done, the one that goes on. -/
def pgo : List UInt8 → List Int → Int → Option (List Int)
  | [], d, n => some (d ++ [n])
  | c :: r, d, n => if c.toNat = 59 then pgo r (d ++ [n]) 0 else if 48 ≤ c.toNat ∧ c.toNat ≤ 57 then pgo r d (min (10 * n + ((c.toNat : Int) - 48)) 9999) else none
def few (l : List Int) : Option (List Int) := if l.length ≤ 16 then some l else none
def params (s : ByteArray) : Option (List Int) := if s.size = 0 then some [] else (pgo s.data.toList [] 0).bind few

def ground (x : Int) : (Nat × ByteArray) × List Ac :=
  if x = 27 then ((2, ⟨#[]⟩), []) else if x < 32 ∨ x = 127 then ((0, ⟨#[]⟩), [⟨2, x, [], 0⟩]) else if x < 128 then ((0, ⟨#[]⟩), [⟨1, x, [], 0⟩])
  else if begB (strOfNums [x]) = true then ((1, strOfNums [x]), []) else ((0, ⟨#[]⟩), [inv])
def inRune (t : ByteArray) (x : Int) : (Nat × ByteArray) × List Ac :=
  if wholeB (t ++ strOfNums [x]) = true then ((0, ⟨#[]⟩), [⟨1, (Utf8.decode (t ++ strOfNums [x]) 0).1, [], 0⟩])
  else if begB (t ++ strOfNums [x]) = true then ((1, t ++ strOfNums [x]), []) else ((ground x).1, inv :: (ground x).2)
def csi (t : ByteArray) (x : Int) : Option (List Int) → (Nat × ByteArray) × List Ac
  | some l => ((0, ⟨#[]⟩), [⟨3, 0, l, x⟩])
  | none => ((0, ⟨#[]⟩), [inv])
def inSeq (at_ : Nat) (t : ByteArray) (x : Int) : (Nat × ByteArray) × List Ac :=
  if x = 27 then ((2, ⟨#[]⟩), [inv]) else if x = 24 ∨ x = 26 then ((0, ⟨#[]⟩), [inv]) else if x < 32 then ((at_, t), [⟨2, x, [], 0⟩])
  else if at_ = 2 then (if x = 91 then ((3, ⟨#[]⟩), []) else if 48 ≤ x ∧ x < 127 then ((0, ⟨#[]⟩), [⟨4, 0, [], x⟩]) else ((0, ⟨#[]⟩), [inv]))
  else if x < 64 then ((3, t ++ strOfNums [x]), []) else if x < 127 then csi t x (params t) else ((0, ⟨#[]⟩), [inv])
/-- What a byte asks for, and where one stands then. -/
def feed (p : Nat × ByteArray) (x : Int) : (Nat × ByteArray) × List Ac :=
  if p.1 = 0 then ground x else if p.1 = 1 then inRune p.2 x else inSeq p.1 p.2 x
/-- Where a parser may stand, k bytes having been fed. -/
def StOk (k : Nat) (p : Nat × ByteArray) : Prop :=
  (p.1 = 0 ∧ p.2.size = 0) ∨ (p.1 = 1 ∧ 0 < p.2.size ∧ p.2.size ≤ 3 ∧ 128 ≤ (p.2.get! 0).toNat) ∨ (p.1 = 2 ∧ p.2.size = 0) ∨ (p.1 = 3 ∧ p.2.size ≤ k)
/-- The document's bytes behind which one stands. -/
def tOf (p : Nat × ByteArray) : ByteArray := if p.1 = 0 then ⟨#[]⟩ else if p.1 = 1 then p.2 else if p.1 = 2 then ⟨#[27]⟩ else ⟨#[27, 91]⟩ ++ p.2

theorem one_size (x : Int) : (strOfNums [x]).size = 1 := rfl
theorem one_get {x : Int} (h0 : 0 ≤ x) (h1 : x ≤ 255) : (((strOfNums [x]).get! 0).toNat : Int) = x := by
  show (((⟨#[UInt8.ofNat x.toNat]⟩ : ByteArray).get! 0).toNat : Int) = x
  have : (⟨#[UInt8.ofNat x.toNat]⟩ : ByteArray).get! 0 = UInt8.ofNat x.toNat := rfl
  rw [this, ofNat_toNat (by omega)]
  omega
theorem join_get0 {t u : ByteArray} (h : 0 < t.size) : (t ++ u).get! 0 = t.get! 0 := by
  rw [get_of (by rw [join_size]; omega), get_of h, ByteArray.getElem_append_left h]
theorem beg_lt {s : ByteArray} (h : begB s = true) : 0 < s.size ∧ s.size ≤ 3 ∧ 128 ≤ (s.get! 0).toNat := by
  unfold begB at h
  have h := of_decide_eq_true h
  have := need_le (s.get! 0).toNat
  refine ⟨h.1, by omega, ?_⟩
  have h2 := h.2.1
  unfold needN at h2
  revert h2
  (repeat' split) <;> intro h2 <;> omega
theorem size0 {s : ByteArray} (h : s.size = 0) : s = ⟨#[]⟩ := by
  cases s with | mk d => exact congrArg _ (Array.eq_empty_of_size_eq_zero h)
theorem ground_ok (k : Nat) (x : Int) : StOk k (ground x).1 := by
  unfold ground
  (repeat' split)
  · exact .inr (.inr (.inl ⟨rfl, rfl⟩))
  · exact .inl ⟨rfl, rfl⟩
  · exact .inl ⟨rfl, rfl⟩
  · rename_i h
    exact .inr (.inl ⟨rfl, beg_lt h⟩)
  · exact .inl ⟨rfl, rfl⟩
theorem feed_ok {k : Nat} {p : Nat × ByteArray} {x : Int} (h : StOk k p) : StOk (k + 1) (feed p x).1 := by
  unfold feed
  split
  · exact ground_ok _ _
  split
  · unfold inRune
    (repeat' split)
    · exact .inl ⟨rfl, rfl⟩
    · rename_i h2
      exact .inr (.inl ⟨rfl, beg_lt h2⟩)
    · exact ground_ok _ _
  · rename_i h0 h1
    have hs : p.1 = 2 ∧ p.2.size = 0 ∨ p.1 = 3 ∧ p.2.size ≤ k := by
      rcases h with h | h | h | h
      · exact absurd h.1 h0
      · exact absurd h.1 h1
      · exact .inl h
      · exact .inr h
    unfold inSeq
    (repeat' split)
    · exact .inr (.inr (.inl ⟨rfl, rfl⟩))
    · exact .inl ⟨rfl, rfl⟩
    · rcases hs with hs | hs
      · exact .inr (.inr (.inl hs))
      · exact .inr (.inr (.inr ⟨hs.1, by dsimp only; omega⟩))
    · exact .inr (.inr (.inr ⟨rfl, by show (0 : Nat) ≤ _; omega⟩))
    · exact .inl ⟨rfl, rfl⟩
    · exact .inl ⟨rfl, rfl⟩
    · exact .inr (.inr (.inr ⟨rfl, by rw [join_size, one_size]; omega⟩))
    · unfold csi
      split <;> exact .inl ⟨rfl, rfl⟩
    · exact .inl ⟨rfl, rfl⟩
end Go.Proofs.YtiilgeinkocanaaDoor
