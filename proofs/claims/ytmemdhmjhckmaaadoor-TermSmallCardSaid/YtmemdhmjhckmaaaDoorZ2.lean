/- Plain facts on UTF-8: what limnerref01 reckons is what the model's own decoder says. No program in sight. Contract of limnerref01.Put. Contracts of widths.in and widths.Of. A block that is known whole. No program in sight. -/
import Derived.Laws.BytesArg
import Derived.Lib.Strings
import Derived.Laws.Strings
import Derived.WideShapes
import Derived.Test.YtmemdhmjhckmaaaDoorRows
import Derived.WalkKit
import Derived.WalkSpells
import Derived.WalkLawsBesides
import Derived.Test.YtmemdhmjhckmaaaDoorZ1
import Derived.Test.YtmemdhmjhckmaaaDoorShelf
import Derived.Deep.QuietTactic
import Derived.BigQuiet
import Derived.Below
import Derived.RangeFuncBox
import Derived.OwnWalk
namespace Go.Proofs.YtmemdhmjhckmaaaDoor

/-- What limnerref01.Put answers. -/
def putS (r : Int) : ByteArray := if Utf8.valid r then Utf8.encode r else ⟨#[]⟩

theorem putS_bad {r : Int} (h : r < 0 ∨ 1114111 < r ∨ (55296 ≤ r ∧ r ≤ 57343)) : putS r = ⟨#[]⟩ := by
  have : Utf8.valid r = false := by simp only [Utf8.valid, Bool.or_eq_false_iff, Bool.and_eq_false_iff, decide_eq_false_iff_not]; omega
  simp [putS, this]
theorem valid_of {r : Int} (h : (0 ≤ r ∧ r < 55296) ∨ (57344 ≤ r ∧ r ≤ 1114111)) : Utf8.valid r = true := by
  simp only [Utf8.valid, Bool.or_eq_true, Bool.and_eq_true, decide_eq_true_eq]; omega
theorem putS_1 {r : Int} (h0 : 0 ≤ r) (h : r < 128) : strOfNums [r] = putS r := by
  obtain ⟨n, rfl⟩ := Int.eq_ofNat_of_zero_le h0
  simp only [putS, valid_of (r := n) (by omega), if_true, Utf8.encode, strOfNums]
  simp only [Int.toNat_natCast]
  rw [if_pos (by omega)]
  simp
theorem putS_2 {r : Int} (h0 : 128 ≤ r) (h : r < 2048) : strOfNums [192 + r / 64, 128 + r % 64] = putS r := by
  obtain ⟨n, rfl⟩ := Int.eq_ofNat_of_zero_le (show 0 ≤ r by omega)
  simp only [putS, valid_of (r := n) (by omega), if_true, Utf8.encode, strOfNums]
  simp only [Int.toNat_natCast]
  rw [if_neg (by omega), if_pos (by omega)]
  simp only [List.map_cons, List.map_nil]
  rw [show (192 + (n : Int) / 64).toNat = 192 + n / 64 by omega, show (128 + (n : Int) % 64).toNat = 128 + n % 64 by omega]
theorem putS_3 {r : Int} (h0 : 2048 ≤ r) (h : r < 65536) (hv : r < 55296 ∨ 57344 ≤ r) : strOfNums [224 + r / 4096, 128 + r / 64 % 64, 128 + r % 64] = putS r := by
  obtain ⟨n, rfl⟩ := Int.eq_ofNat_of_zero_le (show 0 ≤ r by omega)
  simp only [putS, valid_of (r := n) (by omega), if_true, Utf8.encode, strOfNums]
  simp only [Int.toNat_natCast]
  rw [if_neg (by omega), if_neg (by omega), if_pos (by omega)]
  simp only [List.map_cons, List.map_nil]
  rw [show (224 + (n : Int) / 4096).toNat = 224 + n / 4096 by omega, show (128 + (n : Int) / 64 % 64).toNat = 128 + n / 64 % 64 by omega, show (128 + (n : Int) % 64).toNat = 128 + n % 64 by omega]
theorem putS_4 {r : Int} (h0 : 65536 ≤ r) (h : r ≤ 1114111) : strOfNums [240 + r / 262144, 128 + r / 4096 % 64, 128 + r / 64 % 64, 128 + r % 64] = putS r := by
  obtain ⟨n, rfl⟩ := Int.eq_ofNat_of_zero_le (show 0 ≤ r by omega)
  simp only [putS, valid_of (r := n) (by omega), if_true, Utf8.encode, strOfNums]
  simp only [Int.toNat_natCast]
  rw [if_neg (by omega), if_neg (by omega), if_neg (by omega)]
  simp only [List.map_cons, List.map_nil]
  rw [show (240 + (n : Int) / 262144).toNat = 240 + n / 262144 by omega, show (128 + (n : Int) / 4096 % 64).toNat = 128 + n / 4096 % 64 by omega, show (128 + (n : Int) / 64 % 64).toNat = 128 + n / 64 % 64 by omega, show (128 + (n : Int) % 64).toNat = 128 + n % 64 by omega]
def begN (c : Int) : Nat := if c < 128 then 1 else if c < 192 then 0 else if c < 224 then 2 else if c < 240 then 3 else if c < 248 then 4 else 0
def begR (c : Int) : Int := if c < 128 then c else if c < 192 then 0 else if c < 224 then c - 192 else if c < 240 then c - 224 else if c < 248 then c - 240 else 0
theorem begN_le (c : Int) : begN c ≤ 4 := by unfold begN; (repeat' split) <;> omega
theorem begR_le (c : Int) (h : 0 ≤ c) : 0 ≤ begR c ∧ begR c ≤ 127 := by unfold begR; (repeat' split) <;> omega
theorem get_of {s : ByteArray} {i : Nat} (h : i < s.size) : s.get! i = s[i] := by
  cases s with | mk d => exact getElem!_pos d i h
def acc (s : ByteArray) (i : Nat) : Nat → Int
  | 0 => 0
  | 1 => begR (s.get! i).toNat
  | j + 2 => acc s i (j + 1) * 64 + ((s.get! (i + (j + 1))).toNat % 64 : Nat)
theorem acc_succ (s : ByteArray) (i j : Nat) (h : 1 ≤ j) : acc s i (j + 1) = acc s i j * 64 + ((s.get! (i + j)).toNat % 64 : Nat) := by
  obtain ⟨k, rfl⟩ : ∃ k, j = k + 1 := ⟨j - 1, by omega⟩
  rfl
theorem acc_one {s : ByteArray} {i : Nat} (hi : i < s.size) : acc s i 1 = begR (s[i].toNat : Int) := by
  simp only [acc]; rw [get_of hi]
theorem acc_step {s : ByteArray} {i k : Nat} (h1 : 1 ≤ k) (h : i + k < s.size) : acc s i (k + 1) = acc s i k * 64 + (s[i + k].toNat : Int) % 64 := by
  rw [acc_succ s i k h1, get_of h]; omega
theorem rel_step {s : ByteArray} {i k : Nat} {x : Int} (hx : x = acc s i k) (h1 : 1 ≤ k) (h : i + k < s.size) : x * 64 + (s[i + k].toNat : Int) % 64 = acc s i (k + 1) := by
  rw [acc_step h1 h, hx]
theorem acc_bd (s : ByteArray) (i j : Nat) (h : j ≤ 3) : 0 ≤ acc s i j ∧ acc s i j ≤ 524287 := by
  have b1 := begR_le ((s.get! i).toNat : Int) (by omega)
  match j, h with
  | 0, _ => simp [acc]
  | 1, _ => simp only [acc]; omega
  | 2, _ => simp only [acc]; omega
  | 3, _ => simp only [acc]; omega

/-- What limnerref01.Next answers at a place that lies in the text. -/
def nxt (s : ByteArray) (i : Nat) : Int × Nat × Bool :=
  let n := begN (s.get! i).toNat
  if 0 < n ∧ i + n ≤ s.size ∧ putS (acc s i n) = s.extract i (i + n) then (acc s i n, n, true) else (65533, 1, false)

theorem nxt_bad {s : ByteArray} {i n : Nat} (hi : i < s.size) (hn : n = begN (s[i].toNat : Int)) (h : n = 0 ∨ ¬ i + n ≤ s.size ∨ ¬ putS (acc s i n) = s.extract i (i + n)) : nxt s i = (65533, 1, false) := by
  have e : begN ((s.get! i).toNat : Int) = n := by rw [get_of hi]; exact hn.symm
  unfold nxt; rw [e]; dsimp only; rw [if_neg (fun hh => h.elim (fun e => absurd hh.1 (by omega)) (fun h => h.elim (fun e => e hh.2.1) (fun e => e hh.2.2)))]
theorem nxt_good {s : ByteArray} {i n : Nat} (hi : i < s.size) (hn : n = begN (s[i].toNat : Int)) (h0 : 1 ≤ n) (h1 : i + n ≤ s.size) (h2 : putS (acc s i n) = s.extract i (i + n)) : nxt s i = (acc s i n, n, true) := by
  have e : begN ((s.get! i).toNat : Int) = n := by rw [get_of hi]; exact hn.symm
  unfold nxt; rw [e]; dsimp only; rw [if_pos ⟨h0, h1, h2⟩]
theorem toList_eq {a b : ByteArray} (h : (a.toList == b.toList) = true) : a = b := by
  have h := eq_of_beq h
  rw [ByteArray.toList_eq, ByteArray.toList_eq] at h
  exact WideShapes.bytes_inj h
theorem toList_ne {a b : ByteArray} (h : (a.toList == b.toList) = false) : ¬ a = b := by
  rintro rfl; simp at h


theorem sn1 (a : Int) : strOfNums [a] = ⟨#[UInt8.ofNat a.toNat]⟩ := rfl
theorem sn2 (a b : Int) : strOfNums [a, b] = ⟨#[UInt8.ofNat a.toNat, UInt8.ofNat b.toNat]⟩ := rfl
theorem sn3 (a b c : Int) : strOfNums [a, b, c] = ⟨#[UInt8.ofNat a.toNat, UInt8.ofNat b.toNat, UInt8.ofNat c.toNat]⟩ := rfl
theorem sn4 (a b c d : Int) : strOfNums [a, b, c, d] = ⟨#[UInt8.ofNat a.toNat, UInt8.ofNat b.toNat, UInt8.ofNat c.toNat, UInt8.ofNat d.toNat]⟩ := rfl
theorem ofNat_eq {n : Nat} {x : UInt8} (h : n < 256) : UInt8.ofNat n = x ↔ n = x.toNat := by
  constructor
  · rintro rfl; simp; omega
  · rintro rfl; simp
theorem ext_get (s : ByteArray) (i n : Nat) (h : i + n ≤ s.size) : s.extract i (i + n) = ⟨((List.range n).map fun j => s.get! (i + j)).toArray⟩ := by
  have hs : s.size = s.data.size := rfl
  have hx : (s.extract i (i + n)).data = s.data.extract i (i + n) := by simp
  have : (s.extract i (i + n)).data = ((List.range n).map fun j => s.get! (i + j)).toArray := by
    rw [hx]
    apply Array.ext
    · simp; omega
    · intro k h1 h2
      have hk : k < n := by simpa using h2
      simp only [Array.getElem_extract, List.getElem_toArray, List.getElem_map, List.getElem_range]
      rw [get_of (show i + k < s.size by omega)]
      rfl
  cases hq : s.extract i (i + n)
  rw [hq] at this
  exact congrArg _ this
theorem ext1 {s : ByteArray} {i : Nat} (h : i + 1 ≤ s.size) : s.extract i (i + 1) = ⟨#[s.get! i]⟩ := ext_get s i 1 h
theorem ext2 {s : ByteArray} {i : Nat} (h : i + 2 ≤ s.size) : s.extract i (i + 2) = ⟨#[s.get! i, s.get! (i + 1)]⟩ := ext_get s i 2 h
theorem ext3 {s : ByteArray} {i : Nat} (h : i + 3 ≤ s.size) : s.extract i (i + 3) = ⟨#[s.get! i, s.get! (i + 1), s.get! (i + 2)]⟩ := ext_get s i 3 h
theorem ext4 {s : ByteArray} {i : Nat} (h : i + 4 ≤ s.size) : s.extract i (i + 4) = ⟨#[s.get! i, s.get! (i + 1), s.get! (i + 2), s.get! (i + 3)]⟩ := ext_get s i 4 h

/-- What the decoder of the model says, as limnerref01.Next does. -/
def dec3 (s : ByteArray) (i : Nat) : Int × Nat × Bool := (((Utf8.decode s i).1 : Int), (Utf8.decode s i).2, !((Utf8.decode s i).1 == 65533 && (Utf8.decode s i).2 == 1))

theorem len_ne {l m : List UInt8} (h : l.length ≠ m.length) : ¬ (⟨l.toArray⟩ : ByteArray) = ⟨m.toArray⟩ := by
  intro e; injection e with e; have := congrArg Array.toList e; simp at this; exact h (by rw [this])
theorem list_eq {l m : List UInt8} : (⟨l.toArray⟩ : ByteArray) = ⟨m.toArray⟩ ↔ l = m := by
  constructor
  · intro e; injection e with e; simpa using congrArg Array.toList e
  · rintro rfl; rfl

/-- The bytes of a rune, by how many there are. -/
theorem put_cases (r : Int) : (putS r = ⟨[].toArray⟩ ∧ (r < 0 ∨ 1114111 < r ∨ (55296 ≤ r ∧ r ≤ 57343))) ∨ (putS r = ⟨[UInt8.ofNat r.toNat].toArray⟩ ∧ 0 ≤ r ∧ r < 128) ∨
    (putS r = ⟨[UInt8.ofNat (192 + r / 64).toNat, UInt8.ofNat (128 + r % 64).toNat].toArray⟩ ∧ 128 ≤ r ∧ r < 2048) ∨
    (putS r = ⟨[UInt8.ofNat (224 + r / 4096).toNat, UInt8.ofNat (128 + r / 64 % 64).toNat, UInt8.ofNat (128 + r % 64).toNat].toArray⟩ ∧ 2048 ≤ r ∧ r < 65536 ∧ (r < 55296 ∨ 57344 ≤ r)) ∨
    (putS r = ⟨[UInt8.ofNat (240 + r / 262144).toNat, UInt8.ofNat (128 + r / 4096 % 64).toNat, UInt8.ofNat (128 + r / 64 % 64).toNat, UInt8.ofNat (128 + r % 64).toNat].toArray⟩ ∧ 65536 ≤ r ∧ r ≤ 1114111) := by
  by_cases h0 : r < 0 ∨ 1114111 < r ∨ (55296 ≤ r ∧ r ≤ 57343)
  · exact .inl ⟨putS_bad h0, h0⟩
  by_cases h1 : r < 128
  · exact .inr (.inl ⟨(putS_1 (by omega) h1).symm, by omega, h1⟩)
  by_cases h2 : r < 2048
  · exact .inr (.inr (.inl ⟨(putS_2 (by omega) h2).symm, by omega, h2⟩))
  by_cases h3 : r < 65536
  · exact .inr (.inr (.inr (.inl ⟨(putS_3 (by omega) h3 (by omega)).symm, by omega, h3, by omega⟩)))
  · exact .inr (.inr (.inr (.inr ⟨(putS_4 (by omega) (by omega)).symm, by omega, by omega⟩)))

theorem put_two {r : Int} {x y : UInt8} : putS r = ⟨[x, y].toArray⟩ ↔ 128 ≤ r ∧ r < 2048 ∧ 192 + r / 64 = x.toNat ∧ 128 + r % 64 = y.toNat := by
  rcases put_cases r with ⟨h, b⟩ | ⟨h, b⟩ | ⟨h, b⟩ | ⟨h, b⟩ | ⟨h, b⟩ <;> rw [h, list_eq]
  · simp; omega
  · simp; omega
  · simp only [List.cons.injEq, and_true]
    rw [ofNat_eq (by omega), ofNat_eq (by omega)]; omega
  · simp; omega
  · simp; omega
theorem put_three {r : Int} {x y z : UInt8} : putS r = ⟨[x, y, z].toArray⟩ ↔ 2048 ≤ r ∧ r < 65536 ∧ (r < 55296 ∨ 57344 ≤ r) ∧ 224 + r / 4096 = x.toNat ∧ 128 + r / 64 % 64 = y.toNat ∧ 128 + r % 64 = z.toNat := by
  rcases put_cases r with ⟨h, b⟩ | ⟨h, b⟩ | ⟨h, b⟩ | ⟨h, b⟩ | ⟨h, b⟩ <;> rw [h, list_eq]
  · simp; omega
  · simp; omega
  · simp; omega
  · simp only [List.cons.injEq, and_true]
    rw [ofNat_eq (by omega), ofNat_eq (by omega), ofNat_eq (by omega)]; omega
  · simp; omega
theorem put_four {r : Int} {x y z u : UInt8} : putS r = ⟨[x, y, z, u].toArray⟩ ↔ 65536 ≤ r ∧ r ≤ 1114111 ∧ 240 + r / 262144 = x.toNat ∧ 128 + r / 4096 % 64 = y.toNat ∧ 128 + r / 64 % 64 = z.toNat ∧ 128 + r % 64 = u.toNat := by
  rcases put_cases r with ⟨h, b⟩ | ⟨h, b⟩ | ⟨h, b⟩ | ⟨h, b⟩ | ⟨h, b⟩ <;> rw [h, list_eq]
  · simp; omega
  · simp; omega
  · simp; omega
  · simp; omega
  · simp only [List.cons.injEq, and_true]
    rw [ofNat_eq (by omega), ofNat_eq (by omega), ofNat_eq (by omega), ofNat_eq (by omega)]; omega

theorem dec_err {s : ByteArray} {i : Nat} (h : Utf8.decode s i = (65533, 1)) : dec3 s i = (65533, 1, false) := by rw [dec3, h]; rfl
theorem dec_ok {s : ByteArray} {i c n : Nat} (h : Utf8.decode s i = (c, n)) (hn : c ≠ 65533 ∨ n ≠ 1) : dec3 s i = ((c : Int), n, true) := by
  rw [dec3, h]
  rcases hn with hn | hn <;> simp [hn]

theorem nxt_dec (s : ByteArray) (i : Nat) (hi : i < s.size) : nxt s i = dec3 s i := by
  have lb0 := (s.get! i).toNat_lt
  have lb1 := (s.get! (i + 1)).toNat_lt
  have lb2 := (s.get! (i + 2)).toNat_lt
  have lb3 := (s.get! (i + 3)).toNat_lt
  have hg : s.get! i = s[i] := get_of hi
  by_cases c1 : (s.get! i).toNat < 128
  · have hn : 1 = begN (s[i].toNat : Int) := by rw [← hg, begN, if_pos (by omega)]
    have ha : acc s i 1 = ((s.get! i).toNat : Int) := by rw [acc_one hi, ← hg, begR, if_pos (by omega)]
    have hd : Utf8.decode s i = ((s.get! i).toNat, 1) := by
      unfold Utf8.decode; simp only [Nat.add_zero]; rw [if_pos c1]
    rw [nxt_good hi hn (by omega) (by omega) (by rw [ha, ext1 (by omega), ← putS_1 (by omega) (by omega), sn1]; simp), ha, dec_ok hd (by omega)]
  by_cases c2 : (s.get! i).toNat < 192
  · have hn : 0 = begN (s[i].toNat : Int) := by rw [← hg, begN, if_neg (by omega), if_pos (by omega)]
    have hd : Utf8.decode s i = (65533, 1) := by
      unfold Utf8.decode; simp only [Nat.add_zero]
      rw [if_neg c1, if_neg (by simp; omega), if_neg (by simp; omega), if_neg (by simp; omega)]; rfl
    rw [nxt_bad hi hn (.inl rfl), dec_err hd]
  by_cases c3 : (s.get! i).toNat < 224
  · have hn : 2 = begN (s[i].toNat : Int) := by rw [← hg, begN, if_neg (by omega), if_neg (by omega), if_pos (by omega)]
    by_cases f : i + 2 ≤ s.size
    · have ha : acc s i 2 = ((s.get! i).toNat - 192 : Int) * 64 + ((s.get! (i + 1)).toNat : Int) % 64 := by
        rw [acc_step (k := 1) (by omega) (by omega), acc_one hi, ← hg, begR, if_neg (by omega), if_neg (by omega), if_pos (by omega), get_of (show i + 1 < s.size by omega)]
      have hq := ext2 f
      have hp := put_two (r := acc s i 2) (x := s.get! i) (y := s.get! (i + 1))
      by_cases g : 128 ≤ acc s i 2 ∧ (s.get! (i + 1)).toNat / 64 = 2
      · have hd : Utf8.decode s i = ((acc s i 2).toNat, 2) := by
          unfold Utf8.decode; simp only [Nat.add_zero]
          rw [if_neg c1, if_pos (by simp; omega), if_pos (by omega)]
          exact congrArg (·, 2) (by omega)
        rw [nxt_good hi hn (by omega) f (by rw [hq]; exact hp.2 (by omega)), dec_ok hd (by omega)]
        exact congrArg (·, 2, true) (by omega)
      · have hd : Utf8.decode s i = (65533, 1) := by
          unfold Utf8.decode; simp only [Nat.add_zero]
          rw [if_neg c1]
          by_cases k : (s.get! (i + 1)).toNat / 64 = 2
          · rw [if_pos (by simp; omega), if_neg (by omega)]; rfl
          · rw [if_neg (by simp; omega), if_neg (by simp; omega), if_neg (by simp; omega)]; rfl
        rw [nxt_bad hi hn (.inr (.inr (fun e => by rw [hq] at e; have := hp.1 e; omega))), dec_err hd]
    · have hd : Utf8.decode s i = (65533, 1) := by
        unfold Utf8.decode; simp only [Nat.add_zero]
        rw [if_neg c1, if_neg (by simp; omega), if_neg (by simp; omega), if_neg (by simp; omega)]; rfl
      rw [nxt_bad hi hn (.inr (.inl f)), dec_err hd]
  by_cases c4 : (s.get! i).toNat < 240
  · have hn : 3 = begN (s[i].toNat : Int) := by rw [← hg, begN, if_neg (by omega), if_neg (by omega), if_neg (by omega), if_pos (by omega)]
    by_cases f : i + 3 ≤ s.size
    · have ha : acc s i 3 = (((s.get! i).toNat - 224 : Int) * 64 + ((s.get! (i + 1)).toNat : Int) % 64) * 64 + ((s.get! (i + 2)).toNat : Int) % 64 := by
        rw [acc_step (k := 2) (by omega) (by omega), acc_step (k := 1) (by omega) (by omega), acc_one hi, ← hg, begR, if_neg (by omega), if_neg (by omega), if_neg (by omega), if_pos (by omega), get_of (show i + 1 < s.size by omega), get_of (show i + 2 < s.size by omega)]
      have hq := ext3 f
      have hp := put_three (r := acc s i 3) (x := s.get! i) (y := s.get! (i + 1)) (z := s.get! (i + 2))
      by_cases g : (2048 ≤ acc s i 3 ∧ (acc s i 3 < 55296 ∨ 57344 ≤ acc s i 3)) ∧ (s.get! (i + 1)).toNat / 64 = 2 ∧ (s.get! (i + 2)).toNat / 64 = 2
      · have hd : Utf8.decode s i = ((acc s i 3).toNat, 3) := by
          unfold Utf8.decode; simp only [Nat.add_zero]
          rw [if_neg c1, if_neg (by simp; omega), if_pos (by simp; omega)]
          have e : (s.get! i).toNat % 16 * 4096 + (s.get! (i + 1)).toNat % 64 * 64 + (s.get! (i + 2)).toNat % 64 = (acc s i 3).toNat := by omega
          simp only [e]; rw [if_pos (by rw [Bool.and_eq_true, valid_of (by omega)]; simp; omega)]
        rw [nxt_good hi hn (by omega) f (by rw [hq]; exact hp.2 (by omega)), dec_ok hd (by omega)]
        exact congrArg (·, 3, true) (by omega)
      · have hd : Utf8.decode s i = (65533, 1) := by
          unfold Utf8.decode; simp only [Nat.add_zero]
          rw [if_neg c1, if_neg (by simp; omega)]
          by_cases k : (s.get! (i + 1)).toNat / 64 = 2 ∧ (s.get! (i + 2)).toNat / 64 = 2
          · have e : (s.get! i).toNat % 16 * 4096 + (s.get! (i + 1)).toNat % 64 * 64 + (s.get! (i + 2)).toNat % 64 = (acc s i 3).toNat := by omega
            rw [if_pos (by simp; omega)]; simp only [e]; rw [if_neg (by simp [Utf8.valid]; omega)]; rfl
          · rw [if_neg (by simp; omega), if_neg (by simp; omega)]; rfl
        rw [nxt_bad hi hn (.inr (.inr (fun e => by rw [hq] at e; have := hp.1 e; omega))), dec_err hd]
    · have hd : Utf8.decode s i = (65533, 1) := by
        unfold Utf8.decode; simp only [Nat.add_zero]
        rw [if_neg c1, if_neg (by simp; omega), if_neg (by simp; omega), if_neg (by simp; omega)]; rfl
      rw [nxt_bad hi hn (.inr (.inl f)), dec_err hd]
  by_cases c5 : (s.get! i).toNat < 248
  · have hn : 4 = begN (s[i].toNat : Int) := by rw [← hg, begN, if_neg (by omega), if_neg (by omega), if_neg (by omega), if_neg (by omega), if_pos (by omega)]
    by_cases f : i + 4 ≤ s.size
    · have ha : acc s i 4 = ((((s.get! i).toNat - 240 : Int) * 64 + ((s.get! (i + 1)).toNat : Int) % 64) * 64 + ((s.get! (i + 2)).toNat : Int) % 64) * 64 + ((s.get! (i + 3)).toNat : Int) % 64 := by
        rw [acc_step (k := 3) (by omega) (by omega), acc_step (k := 2) (by omega) (by omega), acc_step (k := 1) (by omega) (by omega), acc_one hi, ← hg, begR, if_neg (by omega), if_neg (by omega), if_neg (by omega), if_neg (by omega), if_pos (by omega), get_of (show i + 1 < s.size by omega), get_of (show i + 2 < s.size by omega), get_of (show i + 3 < s.size by omega)]
      have hq := ext4 f
      have hp := put_four (r := acc s i 4) (x := s.get! i) (y := s.get! (i + 1)) (z := s.get! (i + 2)) (u := s.get! (i + 3))
      by_cases g : (65536 ≤ acc s i 4 ∧ acc s i 4 ≤ 1114111) ∧ (s.get! (i + 1)).toNat / 64 = 2 ∧ (s.get! (i + 2)).toNat / 64 = 2 ∧ (s.get! (i + 3)).toNat / 64 = 2
      · have hd : Utf8.decode s i = ((acc s i 4).toNat, 4) := by
          unfold Utf8.decode; simp only [Nat.add_zero]
          rw [if_neg c1, if_neg (by simp; omega), if_neg (by simp; omega), if_pos (by simp; omega)]
          have e : (s.get! i).toNat % 8 * 262144 + (s.get! (i + 1)).toNat % 64 * 4096 + (s.get! (i + 2)).toNat % 64 * 64 + (s.get! (i + 3)).toNat % 64 = (acc s i 4).toNat := by omega
          simp only [e]; rw [if_pos (by rw [Bool.and_eq_true, valid_of (by omega)]; simp; omega)]
        rw [nxt_good hi hn (by omega) f (by rw [hq]; exact hp.2 (by omega)), dec_ok hd (by omega)]
        exact congrArg (·, 4, true) (by omega)
      · have hd : Utf8.decode s i = (65533, 1) := by
          unfold Utf8.decode; simp only [Nat.add_zero]
          rw [if_neg c1, if_neg (by simp; omega), if_neg (by simp; omega)]
          by_cases k : (s.get! (i + 1)).toNat / 64 = 2 ∧ (s.get! (i + 2)).toNat / 64 = 2 ∧ (s.get! (i + 3)).toNat / 64 = 2
          · have e : (s.get! i).toNat % 8 * 262144 + (s.get! (i + 1)).toNat % 64 * 4096 + (s.get! (i + 2)).toNat % 64 * 64 + (s.get! (i + 3)).toNat % 64 = (acc s i 4).toNat := by omega
            rw [if_pos (by simp; omega)]; simp only [e]; rw [if_neg (by simp [Utf8.valid]; omega)]; rfl
          · rw [if_neg (by simp; omega)]; rfl
        rw [nxt_bad hi hn (.inr (.inr (fun e => by rw [hq] at e; have := hp.1 e; omega))), dec_err hd]
    · have hd : Utf8.decode s i = (65533, 1) := by
        unfold Utf8.decode; simp only [Nat.add_zero]
        rw [if_neg c1, if_neg (by simp; omega), if_neg (by simp; omega), if_neg (by simp; omega)]; rfl
      rw [nxt_bad hi hn (.inr (.inl f)), dec_err hd]
  · have hn : 0 = begN (s[i].toNat : Int) := by rw [← hg, begN, if_neg (by omega), if_neg (by omega), if_neg (by omega), if_neg (by omega), if_neg (by omega)]
    have hd : Utf8.decode s i = (65533, 1) := by
      unfold Utf8.decode; simp only [Nat.add_zero]
      rw [if_neg c1, if_neg (by simp; omega), if_neg (by simp; omega), if_neg (by simp; omega)]; rfl
    rw [nxt_bad hi hn (.inl rfl), dec_err hd]
end Go.Proofs.YtmemdhmjhckmaaaDoor
namespace Go.Proofs.YtmemdhmjhckmaaaDoor
open Go.RowKit

theorem hide {p : Prop} (h : p) : Hid p := h
theorem cell_first (w : World) (cs : Array Value) (t : TypeId) (i : Nat) : (w.alloc (.cells cs t)).cell? ⟨w.heap.size, 0 + i, none⟩ = cs[i]? := by
  rw [Nat.zero_add]
  exact cell_of_row _ _ i cs t (0, 0) (heap_alloc_new w _)

theorem conv_bytes (src e dst : TypeId) (hs : Tryd.prog.underlying src = some (.slice e)) (he : Tryd.prog.underlying e = some (.int .u8)) (hd : Tryd.prog.underlying dst = some .string) (w : World) (n : Nat) (xs : List Int) (hl : xs.length = n) (cs : Array Value) (hcs : cs = (xs.map (Value.int .u8)).toArray) :
    (convert src dst (.slice (some ⟨w.heap.size, 0, none⟩) n n)).run Tryd.prog (w.alloc (.cells cs e)) = .ok (.string (strOfNums xs)) (w.alloc (.cells cs e)) := by
  refine run_convert_bytes_arg (P := Tryd.prog) _ src e hs he w.heap.size 0 n n xs hl (fun i hi => ?_) dst hd
  rw [cell_first, hcs]
  simp [List.getD, List.getElem?_eq_getElem (show i < xs.length by omega)]

theorem conv_1 (w : World) (a : Int) : (convert 96 9 (.slice (some ⟨w.heap.size, 0, none⟩) 1 1)).run Tryd.prog (w.alloc (.cells #[.int .u8 a] 5)) = .ok (.string (strOfNums [a])) (w.alloc (.cells #[.int .u8 a] 5)) :=
  conv_bytes 96 5 9 Tryd.underlying96 Tryd.underlying5 Tryd.underlying9 w 1 [a] rfl _ rfl
theorem conv_2 (w : World) (a b : Int) : (convert 96 9 (.slice (some ⟨w.heap.size, 0, none⟩) 2 2)).run Tryd.prog (w.alloc (.cells #[.int .u8 a, .int .u8 b] 5)) = .ok (.string (strOfNums [a, b])) (w.alloc (.cells #[.int .u8 a, .int .u8 b] 5)) :=
  conv_bytes 96 5 9 Tryd.underlying96 Tryd.underlying5 Tryd.underlying9 w 2 [a, b] rfl _ rfl
theorem conv_3 (w : World) (a b c : Int) : (convert 96 9 (.slice (some ⟨w.heap.size, 0, none⟩) 3 3)).run Tryd.prog (w.alloc (.cells #[.int .u8 a, .int .u8 b, .int .u8 c] 5)) = .ok (.string (strOfNums [a, b, c])) (w.alloc (.cells #[.int .u8 a, .int .u8 b, .int .u8 c] 5)) :=
  conv_bytes 96 5 9 Tryd.underlying96 Tryd.underlying5 Tryd.underlying9 w 3 [a, b, c] rfl _ rfl
theorem conv_4 (w : World) (a b c d : Int) : (convert 96 9 (.slice (some ⟨w.heap.size, 0, none⟩) 4 4)).run Tryd.prog (w.alloc (.cells #[.int .u8 a, .int .u8 b, .int .u8 c, .int .u8 d] 5)) = .ok (.string (strOfNums [a, b, c, d])) (w.alloc (.cells #[.int .u8 a, .int .u8 b, .int .u8 c, .int .u8 d] 5)) :=
  conv_bytes 96 5 9 Tryd.underlying96 Tryd.underlying5 Tryd.underlying9 w 4 [a, b, c, d] rfl _ rfl

theorem ret_str {a b : ByteArray} (h : a = b) : Ending.returned (.string a) = .returned (.string b) := by rw [h]

set_option maxHeartbeats 400000 in
theorem put_any (r : Int) (w : World) : Calls Tryd.prog 84 #[.int .i32 r] w fun e w' => e = .returned (.string (putS r)) ∧ Below w.heap.size w w' := by
  have c1 := conv_1
  have c2 := conv_2
  have c3 := conv_3
  have c4 := conv_4
  by_cases h0 : r < 0
  · go_enter Tryd.func84, Tryd.ntmps84
    go_wp2
    go_ret
    exact ⟨ret_str (putS_bad (by omega)).symm, Below.refl _ _⟩
  by_cases h1 : 1114111 < r
  · go_enter Tryd.func84, Tryd.ntmps84
    go_wp2
    go_ret
    exact ⟨ret_str (putS_bad (by omega)).symm, Below.refl _ _⟩
  by_cases h2 : r < 128
  · go_enter Tryd.func84, Tryd.ntmps84
    go_wp2
    go_ret
    exact ⟨ret_str (putS_1 (by omega) (by omega)), (Below.refl _ _).alloc (Nat.le_refl _) _⟩
  by_cases h3 : r < 2048
  · go_enter Tryd.func84, Tryd.ntmps84
    go_wp2
    go_ret
    exact ⟨ret_str (putS_2 (by omega) (by omega)), (Below.refl _ _).alloc (Nat.le_refl _) _⟩
  by_cases h4 : r < 55296
  · go_enter Tryd.func84, Tryd.ntmps84
    go_wp2
    go_ret
    exact ⟨ret_str (putS_3 (by omega) (by omega) (by omega)), (Below.refl _ _).alloc (Nat.le_refl _) _⟩
  by_cases h5 : r ≤ 57343
  · go_enter Tryd.func84, Tryd.ntmps84
    go_wp2
    go_ret
    exact ⟨ret_str (putS_bad (by omega)).symm, Below.refl _ _⟩
  by_cases h6 : r < 65536
  · go_enter Tryd.func84, Tryd.ntmps84
    go_wp2
    go_ret
    exact ⟨ret_str (putS_3 (by omega) (by omega) (by omega)), (Below.refl _ _).alloc (Nat.le_refl _) _⟩
  · go_enter Tryd.func84, Tryd.ntmps84
    go_wp2
    go_ret
    exact ⟨ret_str (putS_4 (by omega) (by omega)), (Below.refl _ _).alloc (Nat.le_refl _) _⟩
end Go.Proofs.YtmemdhmjhckmaaaDoor
namespace Go.Proofs.YtmemdhmjhckmaaaDoor
open Go.RowKit Go.Shelf Go.Lib Go.Sort

/-- The array of runs in block g reads as l. -/
def RunsAt (g : Nat) (l : List (Int × Int)) (w : World) : Prop :=
  ∀ j, j < l.length → w.cell? ⟨g, j * 2, none⟩ = some (.int .i32 (l[j]?.getD (0, 0)).1) ∧ w.cell? ⟨g, j * 2 + 1, none⟩ = some (.int .i32 (l[j]?.getD (0, 0)).2)
theorem RunsAt.keep {g : Nat} {l : List (Int × Int)} {w W : World} (h : RunsAt g l w) (hk : ∀ o v, w.cell? ⟨g, o, none⟩ = some v → W.cell? ⟨g, o, none⟩ = some v) : RunsAt g l W := fun j hj => ⟨hk _ _ (h j hj).1, hk _ _ (h j hj).2⟩
theorem RunsAt.below {g : Nat} {l : List (Int × Int)} {w W : World} (h : RunsAt g l w) (hb : Below w.heap.size w W) : RunsAt g l W :=
  h.keep fun o v hv => (hb.cell (p := ⟨g, o, none⟩) (World.block_lt_of_cell? _ _ hv)).trans hv

theorem below_drewN {B : Nat} {a w : World} (h : Below B a w) (n : Nat) : Below B a (w.drewN n) := ⟨h.os, h.tape, h.output, h.size, h.block⟩
theorem in_ret {a b : Bool} (h : a = b) : Ending.returned (.bool a) = .returned (.bool b) := by rw [h]

set_option maxHeartbeats 2000000 in
theorem in_closure (bl br g cap : Nat) (l : List (Int × Int)) (r : Int) (i : Nat) (W : World) (hi : i < l.length)
    (hl : W.cell? ⟨bl, 0, none⟩ = some (.slice (some ⟨g, 0, none⟩) l.length cap)) (hr : W.cell? ⟨br, 0, none⟩ = some (.int .i32 r)) (hc : W.cell? ⟨g, i * 2 + 1, none⟩ = some (.int .i32 (l[i]?.getD (0, 0)).2)) :
    Calls Tryd.prog 70 (#[.int .i64 i] ++ #[.pointer (some ⟨bl, 0, none⟩), .pointer (some ⟨br, 0, none⟩)]) W fun e w' => e = .returned (.bool (decide (r ≤ (l[i]?.getD (0, 0)).2))) ∧ ∃ q, w' = W.drewN q := by
  generalize (l[i]?.getD (0, 0)).2 = y at hc ⊢
  have hiz : (i : Int) < (l.length : Int) := by omega
  go_enter Tryd.func70, Tryd.ntmps70
  go_wp2
  go_region
  all_goals go_wp2
  all_goals go_ret
  all_goals exact ⟨by first | rfl | simp, 1, rfl⟩

set_option maxRecDepth 100000 in
set_option maxHeartbeats 2000000 in
theorem in_any (g cap : Nat) (l : List (Int × Int)) (r : Int) (w : World) (h : RunsAt g l w) (hg : g < w.heap.size) (hR : Rise l) (hsz : l.length ≤ 1000) :
    Calls Tryd.prog 37 #[.slice (some ⟨g, 0, none⟩) l.length cap, .int .i32 r] w fun e w' => e = .returned (.bool (among l r)) ∧ Below w.heap.size w w' := by
  obtain ⟨W0, hW0⟩ : ∃ W0, W0 = (w.alloc (.cells #[.slice (some ⟨g, 0, none⟩) l.length cap] 86)).alloc (.cells #[.int .i32 r] 21) := ⟨_, rfl⟩
  have hsize : W0.heap.size = w.heap.size + 1 + 1 := by rw [hW0]; simp
  have ca : W0.cell? ⟨w.heap.size, 0, none⟩ = some (.slice (some ⟨g, 0, none⟩) l.length cap) := by rw [hW0]; exact Go.Proofs.cell_alloc_sl _ (Go.Proofs.cell_new_sl w _ _)
  have cx : W0.cell? ⟨w.heap.size + 1, 0, none⟩ = some (.int .i32 r) := by rw [hW0]; have := Go.Proofs.cell_new_sl (w.alloc (.cells #[.slice (some ⟨g, 0, none⟩) l.length cap] 86)) (.int .i32 r) 21; rwa [World.size_alloc] at this
  have hR0 : RunsAt g l W0 := h.keep fun o v hv => by rw [hW0]; exact Go.Proofs.cell_alloc_sl _ (Go.Proofs.cell_alloc_sl _ hv)
  have eg : ∀ args w, (callFunc 70 args).run Tryd.prog w = .ok (.enter 70 args) w := enters_of Tryd.func70 (by kernel_rfl) rfl
  have hS := Go.Proofs.Any.sort_Search Tryd.laysSearch 70 #[.pointer (some ⟨w.heap.size, 0, none⟩), .pointer (some ⟨w.heap.size + 1, 0, none⟩)] l.length (fun i => decide (r ≤ (l[i]?.getD (0, 0)).2)) W0 eg (by omega)
    (fun m os i hi => (in_closure w.heap.size (w.heap.size + 1) g cap l r i _ hi (cell_grown (by simp [hsize]; omega) ca m os) (cell_grown (by simp [hsize]) cx m os) (cell_grown (by simp [hsize]; omega) (hR0 i hi).2 m os)).mono
      fun _ _ ⟨he, q, hq⟩ => ⟨he, q, #[], by rw [hq, grow_empty]⟩) (place_mono hR r)
  change Calls Tryd.prog 69 _ _ _ at hS
  have hS2 : Calls Tryd.prog 69 #[.int .i64 l.length, .func (.func 70) #[] #[.pointer (some ⟨w.heap.size, 0, none⟩), .pointer (some ⟨w.heap.size + 1, 0, none⟩)]] W0 fun e w' => e = .returned (.int .i64 (place l r)) ∧ Below W0.heap.size W0 w' :=
    hS.mono fun e w' ⟨he, q, os, hw⟩ => ⟨he, by rw [hw]; exact Go.Proofs.below_grown_sl _ _ _ _ (Nat.le_refl _)⟩
  clear hS eg
  have hB0 : Below w.heap.size w W0 := by rw [hW0]; exact ((Below.refl _ w).alloc (Nat.le_refl _) _).alloc (by simp) _
  have HA := hide (among_place l r hR)
  have HS := hide hS2
  clear hS2 h
  go_enter Tryd.func37, Tryd.ntmps37
  go_wp2_with (go_at_call 69; rw [← hW0]; refine HS.out.mono ?_; rintro e w1 ⟨rfl, hb1⟩)
  have HR1 := hide (hR0.below hb1)
  have da := (hb1.cell (p := ⟨w.heap.size, 0, none⟩) (by rw [hsize]; show w.heap.size < _; omega)).trans ca
  have dx := (hb1.cell (p := ⟨w.heap.size + 1, 0, none⟩) (by rw [hsize]; show w.heap.size + 1 < _; omega)).trans cx
  have HB := hide (hB0.trans (hb1.mono (by omega)))
  clear hW0 hb1 ca cx hR0 hB0
  have hpl := place_le l r
  by_cases hp : place l r < l.length
  · have hc := (HR1.out _ hp).1
    generalize place l r = k at *
    have hz : (k : Int) < (l.length : Int) := by omega
    go_quiet (fail)
    go_wp2
    go_ret
    exact ⟨in_ret (by rw [← HA.out]; simp [hp]), below_drewN HB.out _⟩
  · generalize place l r = k at *
    have hz : decide ((k : Int) < (l.length : Int)) = false := by simp; omega
    go_quiet (fail)
    go_wp2
    go_ret
    exact ⟨in_ret (by rw [← HA.out, decide_eq_false hp, Bool.false_and]), below_drewN HB.out _⟩

/-- The tables of package widths, in their blocks. -/
def WTabs (w : World) : Prop := RunsAt 0 hid w ∧ RunsAt 1 wid w
theorem WTabs.below {w W : World} (h : WTabs w) (hb : Below w.heap.size w W) : WTabs W := ⟨h.1.below hb, h.2.below hb⟩
theorem WTabs.lt {w : World} (h : WTabs w) : 0 < w.heap.size ∧ 1 < w.heap.size :=
  ⟨World.block_lt_of_cell? _ _ (h.1 0 (by decide)).1, World.block_lt_of_cell? _ _ (h.2 0 (by decide)).1⟩

theorem ret_shown {a b : Int} (h : a = b) : Ending.returned (.int .i32 a) = .returned (.int .i32 b) := by rw [h]
theorem ret_cells {a b : Int} (h : a = b) : Ending.returned (.int .i64 a) = .returned (.int .i64 b) := by rw [h]

set_option maxHeartbeats 400000 in
theorem wof_any (r : Int) (w : World) (hT : WTabs w) :
    Calls Tryd.prog 18 #[.int .i32 r] w fun e w' => e = .returned (.int .i64 (cells r)) ∧ Below w.heap.size w w' := by
  have HT := hide hT
  clear hT
  go_enter Tryd.func18, Tryd.ntmps18
  by_cases h0 : r < 0
  · go_wp2
    go_ret
    exact ⟨ret_cells (by rw [cells, if_pos (.inl h0)]), Below.refl _ _⟩
  by_cases h1 : 1114111 < r
  · go_wp2
    go_ret
    exact ⟨ret_cells (by rw [cells, if_pos (.inr (.inl h1))]), Below.refl _ _⟩
  cases hh : among hid r
  · cases hw : among wid r
    · have HH := hide hh
      have HW := hide hw
      clear hh hw
      go_wp2_with fail
      refine (in_any 0 8 hid r _ HT.out.1 HT.out.lt.1 rise_hid (by decide)).mono ?_
      rw [HH.out]
      rintro e w1 ⟨rfl, hb1⟩
      go_wp2_with fail
      refine (in_any 1 14 wid r _ (HT.out.below hb1).2 (HT.out.below hb1).lt.2 rise_wid (by decide)).mono ?_
      rw [HW.out]
      rintro e w2 ⟨rfl, hb2⟩
      go_wp2
      go_ret
      exact ⟨ret_cells (by rw [cells, if_neg (by rw [HH.out]; simp; omega), HW.out]; rfl), hb1.trans (hb2.mono hb1.size)⟩
    · have HH := hide hh
      have HW := hide hw
      clear hh hw
      go_wp2_with fail
      refine (in_any 0 8 hid r _ HT.out.1 HT.out.lt.1 rise_hid (by decide)).mono ?_
      rw [HH.out]
      rintro e w1 ⟨rfl, hb1⟩
      go_wp2_with fail
      refine (in_any 1 14 wid r _ (HT.out.below hb1).2 (HT.out.below hb1).lt.2 rise_wid (by decide)).mono ?_
      rw [HW.out]
      rintro e w2 ⟨rfl, hb2⟩
      go_wp2
      go_ret
      exact ⟨ret_cells (by rw [cells, if_neg (by rw [HH.out]; simp; omega), HW.out]; rfl), hb1.trans (hb2.mono hb1.size)⟩
  · have HH := hide hh
    clear hh
    go_wp2_with fail
    refine (in_any 0 8 hid r _ HT.out.1 HT.out.lt.1 rise_hid (by decide)).mono ?_
    rw [HH.out]
    rintro e w1 ⟨rfl, hb1⟩
    go_wp2
    go_ret
    exact ⟨ret_cells (by rw [cells, if_pos (.inr (.inr HH.out))]), hb1⟩
end Go.Proofs.YtmemdhmjhckmaaaDoor
namespace Go.Proofs.YtmemdhmjhckmaaaDoor
open Go.RowKit

/-- The block's cells are these, of type t, and may be written. -/
def Blk (W : World) (b : Nat) (t : TypeId) (cs : List Value) : Prop := W.heap[b]? = some (.cells cs.toArray t (0, 0))
theorem Blk.lt {W : World} {b : Nat} {t : TypeId} {cs : List Value} (h : Blk W b t cs) : b < W.heap.size := (Array.getElem?_eq_some_iff.1 h).1
theorem Blk.cell {W : World} {b : Nat} {t : TypeId} {cs : List Value} (h : Blk W b t cs) {i : Nat} {u : Value} (hi : cs[i]? = some u) : W.cell? ⟨b, i, none⟩ = some u := by
  simp [World.cell?, show W.heap[b]? = _ from h, hi]
theorem Blk.frozen {W : World} {b : Nat} {t : TypeId} {cs : List Value} (h : Blk W b t cs) (i : Nat) : W.frozen? ⟨b, i, none⟩ = false := by
  simp [World.frozen?, show W.heap[b]? = _ from h]
theorem Blk.new (W : World) (t : TypeId) (cs : List Value) : Blk (W.alloc (.cells cs.toArray t)) W.heap.size t cs := World.alloc_heap_new W _
theorem Blk.below {W W' : World} {b : Nat} {t : TypeId} {cs : List Value} (h : Blk W b t cs) (hb : Below W.heap.size W W') : Blk W' b t cs := (hb.block b h.lt).trans h
theorem Blk.under {B : Nat} {W W' : World} {b : Nat} {t : TypeId} {cs : List Value} (h : Blk W b t cs) (hb : Below B W W') (hl : b < B) : Blk W' b t cs := (hb.block b hl).trans h
theorem Blk.alloc {W : World} {b : Nat} {t : TypeId} {cs : List Value} (h : Blk W b t cs) (o : Obj) : Blk (W.alloc o) b t cs := h.below ((Below.refl _ _).alloc (Nat.le_refl _) _)
theorem Blk.drewN {W : World} {b : Nat} {t : TypeId} {cs : List Value} (h : Blk W b t cs) (n : Nat) : Blk (W.drewN n) b t cs := h
theorem Blk.drew {W : World} {b : Nat} {t : TypeId} {cs : List Value} (h : Blk W b t cs) : Blk W.drew b t cs := h
theorem Blk.set {W : World} {b : Nat} {t : TypeId} {cs : List Value} (h : Blk W b t cs) (i : Nat) (v : Value) : Blk (W.setCell ⟨b, i, none⟩ v) b t (cs.set i v) := by
  obtain ⟨hlt, hk⟩ := Array.getElem?_eq_some_iff.1 h
  show (W.heap.modify b _)[b]? = _
  rw [Array.getElem?_eq_getElem (by rw [Array.size_modify]; exact hlt), Array.getElem_modify_self, hk]
  simp
theorem Blk.far {W : World} {b : Nat} {t : TypeId} {cs : List Value} (h : Blk W b t cs) {p : Addr} (hp : p.block ≠ b) (v : Value) : Blk (W.setCell p v) b t cs :=
  (Below.heap_setCell _ _ _ _ (fun e => hp e.symm)).trans h
end Go.Proofs.YtmemdhmjhckmaaaDoor
