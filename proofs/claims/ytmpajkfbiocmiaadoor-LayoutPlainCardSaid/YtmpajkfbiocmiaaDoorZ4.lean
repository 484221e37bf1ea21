/- Two texts, one behind the other: plain facts. No program in sight. Where runes stand: from the end of a text it is taken apart as from its front. Plain facts, no walk. Contracts of codes.Starts, limnerlaw01.Ints and limnerref01.Valid. Contracts of codes.Count and codes.Valid. Contracts of codes.Next and limnerref01.Next at no place, of codes.Back. Lines of a text: where a line begins and ends, which line a place is in, where a line is. Plain. Places where runes stand, by their numbers. Plain facts, no walk. Contracts of motions.Class and limnerref18.Class: each answers cls, and leaves the world as it is. Motions by runes' numbers. Plain facts, no walk. Contracts of limnerref04: near, Start, End. Contracts of limnerref04: Runes, Place. Contracts of places: near, Start, End, Runes, Place. Contracts of motions: left, right, here, ahead. Contracts of motions.skip and motions.back at the four function values (printed by genskip.py). Contracts of motions.line, tail and once. Contract of motions.once. Contracts of motions.Fix, To, limnerref18.Fix, classes. Contract of (*layout.sheet).lay. From the rows' listed variables to the tables that the contracts ask of the world; opening a view. -/
import Derived.Test.YtmpajkfbiocmiaaDoorZ3
import Derived.Lib.RuneCountTail
import Derived.Lib.ValidLaws
import Derived.Shelf.Unicode.DecodeLast
import Derived.Laws.RangeAny
import Derived.Lib.OthersKept
import Derived.BigQuiet
import Derived.Deep.QuietTactic
import Derived.Deep.RegionHeld3
import Derived.Lib.LastIndexByte
import Derived.Lib.Bytealg
import Derived.Laws.BytesArg
import Derived.Test.YtmpajkfbiocmiaaDoorRows
import Derived.WalkKit
import Derived.WalkSpells
import Derived.WalkLawsBesides
import Derived.Test.YtmpajkfbiocmiaaDoorShelf
import Derived.Deep.LoopGhost
import Derived.Test.YtmpajkfbiocmiaaDoorZ1
import Derived.Test.YtmpajkfbiocmiaaDoorCards
import Derived.Test.YtmpajkfbiocmiaaDoorTie
import Derived.Lib.LaidU8
import Derived.PinnedBridge
import Derived.LaidMore
import Derived.Lay
import Derived.SevenTiedAt
import Derived.Stop.Joined
namespace Go.Proofs.YtmpajkfbiocmiaaDoor

theorem join_data (a b : ByteArray) : (a ++ b).data.toList = a.data.toList ++ b.data.toList := by simp
theorem join_size (a b : ByteArray) : (a ++ b).size = a.size + b.size := ByteArray.size_append
theorem size_list (a : ByteArray) : a.size = a.data.toList.length := rfl
theorem join_front {a b : ByteArray} {i n : Nat} (h : i + n ≤ a.size) : (a ++ b).extract i (i + n) = a.extract i (i + n) := by
  rw [Lib.extract_eq, Lib.extract_eq, join_data]
  have : i ≤ a.data.toList.length := by rw [← size_list]; omega
  rw [List.drop_append_of_le_length this, List.take_append_of_le_length (by rw [List.length_drop, ← size_list]; omega)]
theorem join_tail (a b : ByteArray) : (a ++ b).extract a.size (a ++ b).size = b := by
  rw [Lib.extract_eq, join_data, join_size, List.drop_append_of_le_length (by rw [← size_list]; exact Nat.le_refl _), List.drop_of_length_le (by rw [← size_list]; exact Nat.le_refl _), List.nil_append, Nat.add_sub_cancel_left, List.take_of_length_le (by rw [← size_list]; exact Nat.le_refl _)]
theorem decode_behind (a b : ByteArray) (j : Nat) : Utf8.decode (a ++ b) (a.size + j) = Utf8.decode b j := by
  rw [← Lib.tail_decode, join_tail]

/-- Where a rune stands, its bytes are those that it is put as. -/
theorem ok_put {s : ByteArray} {i : Nat} (hi : i < s.size) (h : (dec3 s i).2.2 = true) : ∃ r : Int, ((0 ≤ r ∧ r < 55296) ∨ (57344 ≤ r ∧ r ≤ 1114111)) ∧ s.extract i (i + (putS r).size) = putS r ∧ i + (putS r).size ≤ s.size := by
  rw [← nxt_dec s i hi] at h
  unfold nxt at h
  dsimp only at h
  split at h
  · rename_i hc
    obtain ⟨h0, h1, h2⟩ := hc
    have hz : (putS (acc s i (begN (s.get! i).toNat))).size = begN (s.get! i).toNat := by
      rw [h2, ext_get s i _ h1]; simp [ByteArray.size]
    refine ⟨acc s i (begN (s.get! i).toNat), ?_, by rw [hz, h2], by rw [hz]; exact h1⟩
    rcases put_cases (acc s i (begN (s.get! i).toNat)) with ⟨e, b⟩ | b | b | b | b
    · rw [e] at hz; simp [ByteArray.size] at hz; omega
    all_goals omega
  · simp at h
theorem decode_front {a b : ByteArray} {i : Nat} (hi : i < a.size) (h : (dec3 a i).2.2 = true) : Utf8.decode (a ++ b) i = Utf8.decode a i ∧ i + (Utf8.decode a i).2 ≤ a.size := by
  obtain ⟨r, hv, he, hs⟩ := ok_put hi h
  have d := (decode_put hv he hs).1
  have e := (decode_put (s := a ++ b) hv (by rw [join_front hs, he]) (by rw [join_size]; omega)).1
  exact ⟨by rw [d, e], by rw [d]; exact hs⟩

theorem valid_at (s : ByteArray) (i : Nat) (hi : i < s.size) : Lib.validD (s.data.toList.drop i) = ((dec3 s i).2.2 && Lib.validD (s.data.toList.drop (i + (Utf8.decode s i).2))) := by
  have hne : s.data.toList.drop i ≠ [] := by
    intro h; have := congrArg List.length h; rw [List.length_drop, ← size_list] at this; simp at this; omega
  rw [Lib.validD_step _ hne, Lib.decodeL_drop, List.drop_drop]
  unfold dec3
  by_cases h : (Utf8.decode s i).1 = 65533 ∧ (Utf8.decode s i).2 = 1
  · rw [if_pos h]; simp [h.1, h.2]
  · rw [if_neg h]
    have : (!((Utf8.decode s i).1 == 65533 && (Utf8.decode s i).2 == 1)) = true := by
      simp only [Bool.not_eq_true', Bool.and_eq_false_iff, beq_eq_false_iff_ne]; omega
    rw [this, Bool.true_and]

/-- A sum over the runes of two texts, the first one Valid, is that of both. -/
theorem sum_join (g : Nat → Nat → Int) (F : ByteArray → Nat → Nat → Int) (hend : ∀ s f pos, ¬ pos < s.size → F s f pos = 0) (hgo : ∀ s f pos, pos < s.size → F s (f + 1) pos = g (Utf8.decode s pos).1 (Utf8.decode s pos).2 + F s f (pos + (Utf8.decode s pos).2)) (a b : ByteArray) :
    (∀ (f k pos : Nat), b.size ≤ pos + f → b.size ≤ pos + k → F b f pos = F b k pos) ∧ (∀ (f pos : Nat), b.size ≤ pos + f → F (a ++ b) f (a.size + pos) = F b f pos) ∧ ∀ (f k pos : Nat), pos ≤ a.size → a.size ≤ pos + k → a.size + b.size ≤ pos + f → Lib.validD (a.data.toList.drop pos) = true → F (a ++ b) f pos = F a k pos + F b b.size 0 := by
  have A : ∀ (f k pos : Nat), b.size ≤ pos + f → b.size ≤ pos + k → F b f pos = F b k pos := by
    intro f
    induction f with
    | zero => intro k pos h1 h2; rw [hend _ _ _ (by omega), hend _ _ _ (by omega)]
    | succ f ih =>
      intro k pos h1 h2
      by_cases hp : pos < b.size
      · obtain ⟨k, rfl⟩ : ∃ m, k = m + 1 := ⟨k - 1, by omega⟩
        have hw := Lib.width_pos b pos
        rw [hgo _ _ _ hp, hgo _ _ _ hp, ih k _ (by omega) (by omega)]
      · rw [hend _ _ _ hp, hend _ _ _ hp]
  have B : ∀ (f pos : Nat), b.size ≤ pos + f → F (a ++ b) f (a.size + pos) = F b f pos := by
    intro f
    induction f with
    | zero => intro pos h; rw [hend _ _ _ (by rw [join_size]; omega), hend _ _ _ (by omega)]
    | succ f ih =>
      intro pos h
      by_cases hp : pos < b.size
      · have hw := Lib.width_pos b pos
        rw [hgo _ _ _ (by rw [join_size]; omega), hgo _ _ _ hp, decode_behind, Nat.add_assoc, ih _ (by omega)]
      · rw [hend _ _ _ (by rw [join_size]; omega), hend _ _ _ hp]
  refine ⟨A, B, ?_⟩
  intro f
  induction f with
  | zero =>
    intro k pos h1 h2 h3 _
    rw [hend _ _ _ (by rw [join_size]; omega), hend a _ _ (by omega), hend b _ _ (by omega)]; rfl
  | succ f ih =>
    intro k pos h1 h2 h3 hv
    by_cases hp : pos < a.size
    · obtain ⟨k, rfl⟩ : ∃ m, k = m + 1 := ⟨k - 1, by omega⟩
      rw [valid_at a pos hp, Bool.and_eq_true] at hv
      obtain ⟨e, hle⟩ := decode_front (b := b) hp hv.1
      have hw := Lib.width_pos a pos
      rw [hgo _ _ _ (by rw [join_size]; omega), hgo _ _ _ hp, e, ih k _ hle (by omega) (by omega) hv.2, Int.add_assoc]
    · have hz : pos = a.size + 0 := by omega
      rw [hend a _ _ hp, hz, B (f + 1) 0 (by omega), A (f + 1) b.size 0 (by omega) (by omega), Int.zero_add]
end Go.Proofs.YtmpajkfbiocmiaaDoor
namespace Go.Proofs.YtmpajkfbiocmiaaDoor

/-- What a decoding takes. -/
theorem dec_facts (s : ByteArray) (i : Nat) : (Utf8.decode s i).2 ≤ 4 ∧ (2 ≤ (Utf8.decode s i).2 → 192 ≤ (s.get! i).toNat) ∧ (∀ j, 1 ≤ j → j < (Utf8.decode s i).2 → (s.get! (i + j)).toNat / 64 = 2) ∧ ((s.get! i).toNat < 128 → Utf8.decode s i = ((s.get! i).toNat, 1)) ∧ ((Utf8.decode s i).2 = 1 → 128 ≤ (s.get! i).toNat → Utf8.decode s i = (65533, 1)) := by
  have lb0 := (s.get! i).toNat_lt
  unfold Utf8.decode
  simp only [Nat.add_zero]
  repeat' split
  all_goals
    refine ⟨by simp, ?_, ?_, ?_, ?_⟩
    · intro h; simp at h; try (simp_all <;> omega)
    · intro j h1 h2
      have hj : j = 1 ∨ j = 2 ∨ j = 3 := by simp at h2; omega
      rcases hj with rfl | rfl | rfl <;> simp_all
    · intro h; try (simp_all <;> omega)
    · intro h1 h2; try (simp_all [Utf8.runeError] <;> omega)

theorem start_mem {s : ByteArray} {p : Nat} (hp : p < s.size) (hs : (s.get! p).toNat / 64 ≠ 2) : ∀ f pos, pos ≤ p → s.size ≤ pos + f → p ∈ startsFrom s f pos
  | 0, pos, h1, h2 => absurd h2 (by omega)
  | f + 1, pos, h1, h2 => by
    rw [startsFrom_go (by omega)]
    by_cases e : pos = p
    · subst e; exact List.mem_cons_self
    · obtain ⟨_, _, hc, _⟩ := dec_facts s pos
      by_cases h : pos + (Utf8.decode s pos).2 ≤ p
      · exact List.mem_cons_of_mem _ (start_mem hp hs f _ h (by have := dec_in s pos (by omega); omega))
      · have := hc (p - pos) (by omega) (by omega)
        rw [show pos + (p - pos) = p by omega] at this
        exact absurd this hs

theorem last_spec (s : ByteArray) : ∀ f pos, pos < s.size → s.size ≤ pos + f → ∃ k, (startsFrom s f pos).getLast? = some k ∧ k < s.size ∧ k + (Utf8.decode s k).2 = s.size ∧ ∀ x ∈ startsFrom s f pos, x + (Utf8.decode s x).2 = s.size → x = k
  | 0, pos, h1, h2 => absurd h2 (by omega)
  | f + 1, pos, h1, h2 => by
    have hd := dec_in s pos h1
    rw [startsFrom_go h1]
    by_cases h : pos + (Utf8.decode s pos).2 < s.size
    · obtain ⟨k, e, hk, hw, hu⟩ := last_spec s f (pos + (Utf8.decode s pos).2) h (by omega)
      refine ⟨k, ?_, hk, hw, fun x hx he => ?_⟩
      · rw [List.getLast?_cons, e]; rfl
      · rcases List.mem_cons.1 hx with rfl | hx
        · omega
        · exact hu x hx he
    · rw [startsFrom_end h]
      exact ⟨pos, rfl, h1, by omega, fun x hx _ => by simpa using hx⟩

/-- The place of the last rune. -/
def lastS (s : ByteArray) : Nat := (starts s)[(starts s).length - 1]?.getD 0
theorem lastS_spec {s : ByteArray} (h : 0 < s.size) : lastS s < s.size ∧ lastS s + (Utf8.decode s (lastS s)).2 = s.size ∧ 1 ≤ (starts s).length ∧ ∀ x ∈ starts s, x + (Utf8.decode s x).2 = s.size → x = lastS s := by
  obtain ⟨k, e, hk, hw, hu⟩ := last_spec s s.size 0 h (by omega)
  have e' : lastS s = k := by
    unfold lastS; rw [← List.getLast?_eq_getElem?]; unfold starts; rw [e]; rfl
  rw [e']
  refine ⟨hk, hw, ?_, hu⟩
  unfold starts
  cases hz : startsFrom s s.size 0 with
  | nil => rw [hz] at e; simp at e
  | cons a l => simp

theorem startB {s : ByteArray} {i : Nat} (b : Bool) (h : ((s.get! i).toNat / 64 ≠ 2) ↔ b = true) : Lib.runeStartB (s.data.toList.getD i 0) = b := by
  rw [Lib.getD_get!]
  unfold Lib.runeStartB
  rw [Bool.eq_iff_iff, ← h]
  simp
theorem startB_t {s : ByteArray} {i : Nat} (h : (s.get! i).toNat / 64 ≠ 2) : Lib.runeStartB (s.data.toList.getD i 0) = true := startB true (by simp [h])
theorem startB_f {s : ByteArray} {i : Nat} (h : (s.get! i).toNat / 64 = 2) : Lib.runeStartB (s.data.toList.getD i 0) = false := startB false (by simp [h])

/-- A rune of two bytes or more that ends the text is found from its end. -/
theorem lastStart_of {s : ByteArray} {k : Nat} (h2 : 2 ≤ (Utf8.decode s k).2) (he : k + (Utf8.decode s k).2 = s.size) : Lib.lastStart s.data.toList = k := by
  obtain ⟨h4, hl, hc, _⟩ := dec_facts s k
  have hlen : s.data.toList.length = s.size := rfl
  have h0 : Lib.runeStartB (s.data.toList.getD k 0) = true := startB_t (by have := hl h2; omega)
  have hn : (Utf8.decode s k).2 = 2 ∨ (Utf8.decode s k).2 = 3 ∨ (Utf8.decode s k).2 = 4 := by omega
  rcases hn with hn | hn | hn
  · exact Lib.lastStart_at2 _ k (by omega) h0
  · exact Lib.lastStart_at3 _ k (by omega) (startB_f (hc 1 (by omega) (by omega))) h0
  · exact Lib.lastStart_at4 _ k (by omega) (startB_f (hc 2 (by omega) (by omega))) (startB_f (hc 1 (by omega) (by omega))) h0

/-- The last rune of a text is the one that stands last from its front. -/
theorem last_eq {s : ByteArray} (h : 0 < s.size) : Lib.decodeLastL s.data.toList = Utf8.decode s (lastS s) := by
  obtain ⟨hk, hw, hl, hu⟩ := lastS_spec h
  generalize lastS s = k at hk hw hu
  obtain ⟨h4, h192, hc, hasc, herr⟩ := dec_facts s k
  have hd := dec_in s k hk
  have hlen : s.data.toList.length = s.size := rfl
  have hne : s.data.toList ≠ [] := fun e => by rw [e] at hlen; simp at hlen; omega
  unfold Lib.decodeLastL
  rw [if_neg hne, hlen, Lib.getD_get!, Lib.decodeL_drop]
  by_cases h1 : (Utf8.decode s k).2 = 1
  · have ek : s.size - 1 = k := by omega
    rw [ek]
    by_cases ha : (s.get! k).toNat < 128
    · rw [if_pos ha, hasc ha]
    · rw [if_neg ha, herr h1 (by omega)]
      dsimp only
      split
      · rename_i hj
        generalize hjj : Lib.lastStart s.data.toList = j at hj
        have hjl : j < s.size := by rw [← hjj, ← hlen]; exact Lib.lastStart_lt _ hne
        by_cases hjk : j = k
        · rw [hjk]; exact herr h1 (by omega)
        · obtain ⟨j4, j192, _, _, _⟩ := dec_facts s j
          have hm := start_mem hjl (by have := j192 (by omega); omega) s.size 0 (by omega) (by omega)
          exact absurd (hu j hm hj) hjk
      · rfl
  · have hls := lastStart_of (s := s) (k := k) (by omega) hw
    have hb := hc ((Utf8.decode s k).2 - 1) (by omega) (by omega)
    rw [show k + ((Utf8.decode s k).2 - 1) = s.size - 1 by omega] at hb
    rw [if_neg (by omega), hls]
    dsimp only
    rw [if_pos hw]

theorem prefix_size {s : ByteArray} {p : Nat} (h : p ≤ s.size) : (s.extract 0 p).size = p := by simp; omega
theorem prefix_ext {s : ByteArray} {p i n : Nat} (h : p ≤ s.size) (hi : i + n ≤ p) : (s.extract 0 p).extract i (i + n) = s.extract i (i + n) := by
  rw [Lib.extract_eq, Lib.extract_eq, Lib.extract_eq]
  simp only [List.drop_zero, Nat.sub_zero, Nat.add_sub_cancel_left]
  rw [List.drop_take, List.take_take, Nat.min_eq_left (by omega)]
theorem dec3_ok {s : ByteArray} {i : Nat} (h : (dec3 s i).2.2 = false) : Utf8.decode s i = (65533, 1) := by
  unfold dec3 at h
  simp only [Bool.not_eq_false', Bool.and_eq_true, beq_iff_eq] at h
  exact Prod.ext h.1 h.2
theorem put_ok {r : Int} (hv : (0 ≤ r ∧ r < 55296) ∨ (57344 ≤ r ∧ r ≤ 1114111)) : ¬ ((r.toNat, (putS r).size) = (65533, 1)) := by
  intro e
  injection e with e1 e2
  rcases put_cases r with ⟨h, b⟩ | ⟨h, b⟩ | ⟨h, b⟩ | ⟨h, b⟩ | ⟨h, b⟩
  all_goals first | omega | (rw [h] at e2; simp [ByteArray.size] at e2)
/-- A rune that ends within a text's front is read there as in the text. -/
theorem decode_prefix {s : ByteArray} {p i : Nat} (hp : p ≤ s.size) (hi : i < p) (h : i + (Utf8.decode s i).2 ≤ p) : Utf8.decode (s.extract 0 p) i = Utf8.decode s i := by
  have hz := prefix_size hp
  cases hk : (dec3 s i).2.2
  · rw [dec3_ok hk]
    cases hk2 : (dec3 (s.extract 0 p) i).2.2
    · exact dec3_ok hk2
    · obtain ⟨r, hv, he, hs⟩ := ok_put (by omega) hk2
      rw [hz] at hs
      rw [prefix_ext hp hs] at he
      have := (decode_put hv he (by omega)).1
      rw [dec3_ok hk] at this
      exact absurd this.symm (put_ok hv)
  · obtain ⟨r, hv, he, hs⟩ := ok_put (by omega) hk
    have d := (decode_put hv he hs).1
    rw [d] at h ⊢
    exact (decode_put hv (by rw [prefix_ext hp h, he]) (by rw [hz]; exact h)).1
theorem starts_prefix {s : ByteArray} {p : Nat} (hp : p ≤ s.size) : ∀ f g pos, p ≤ pos + g → s.size ≤ pos + f → ∀ i ∈ startsFrom s f pos, i + (Utf8.decode s i).2 ≤ p → i ∈ startsFrom (s.extract 0 p) g pos
  | 0, g, pos, h1, h2, i, hi, he => by simp [startsFrom] at hi
  | f + 1, g, pos, h1, h2, i, hi, he => by
    have hil := starts_lt s _ _ i hi
    have hdi := dec_in s i hil.2
    have hpp : pos < p := by omega
    obtain ⟨g, rfl⟩ : ∃ m, g = m + 1 := ⟨g - 1, by omega⟩
    rw [startsFrom_go (by rw [prefix_size hp]; exact hpp)]
    rw [startsFrom_go (by omega)] at hi
    rcases List.mem_cons.1 hi with rfl | hi
    · exact List.mem_cons_self
    · have hl2 := starts_lt s _ _ i hi
      have hdp := dec_in s pos (by omega)
      rw [decode_prefix hp hpp (by omega)]
      exact List.mem_cons_of_mem _ (starts_prefix hp f g _ (by omega) (by omega) i hi he)
/-- From the end of a rune it is read back. -/
theorem back_at {s : ByteArray} {i : Nat} (hi : i ∈ starts s) : Lib.decodeLastL (s.extract 0 (i + (Utf8.decode s i).2)).data.toList = Utf8.decode s i := by
  have hil := starts_lt s _ _ i hi
  have hd := dec_in s i hil.2
  have hz := prefix_size (s := s) (p := i + (Utf8.decode s i).2) (by omega)
  have hm := starts_prefix (p := i + (Utf8.decode s i).2) (by omega) s.size (s.extract 0 (i + (Utf8.decode s i).2)).size 0 (by omega) (by omega) i hi (Nat.le_refl _)
  have he := decode_prefix (s := s) (p := i + (Utf8.decode s i).2) (i := i) (by omega) (by omega) (Nat.le_refl _)
  rw [last_eq (by omega), ← (lastS_spec (by omega)).2.2.2 i hm (by rw [he, hz]), he]

/-- Each rune stands behind the one ahead. -/
theorem starts_next (s : ByteArray) : ∀ f pos j, j + 1 < (startsFrom s f pos).length → (startsFrom s f pos)[j + 1]?.getD 0 = (startsFrom s f pos)[j]?.getD 0 + (Utf8.decode s ((startsFrom s f pos)[j]?.getD 0)).2
  | 0, _, j, h => by simp [startsFrom] at h
  | f + 1, pos, j, h => by
    by_cases hp : pos < s.size
    · rw [startsFrom_go hp] at h ⊢
      match j with
      | 0 =>
        simp only [List.length_cons] at h
        match f with
        | 0 => simp [startsFrom] at h
        | f + 1 =>
          by_cases h2 : pos + (Utf8.decode s pos).2 < s.size
          · rw [startsFrom_go h2]; simp
          · rw [startsFrom_end h2] at h; simp at h
      | j + 1 =>
        have := starts_next s f (pos + (Utf8.decode s pos).2) j (by simpa using h)
        simpa using this
    · rw [startsFrom_end hp] at h; simp at h
theorem starts_head {s : ByteArray} (h : 0 < s.size) : (starts s)[0]?.getD 0 = 0 := by
  unfold starts
  obtain ⟨f, e⟩ : ∃ f, s.size = f + 1 := ⟨s.size - 1, by omega⟩
  rw [e, startsFrom_go h]; rfl
end Go.Proofs.YtmpajkfbiocmiaaDoor
namespace Go.Proofs.YtmpajkfbiocmiaaDoor
open Go.RowKit

theorem own_iter {w : World} {B k : Nat} {e : TypeId} {m : Nat} {v : Value} {n : Nat} {xs : List Value} (h : w.ownsRow B e m v n xs) (hk : k < B) (s : ByteArray) (pos : Nat) : (w.iterAt k s pos).ownsRow B e m v n xs := by
  refine ⟨h.1, ?_⟩
  rcases h.2 with h0 | ⟨g, cap, cur, rfl, hg, hh, h1, h2, h3, h4⟩
  · exact .inl h0
  · exact .inr ⟨g, cap, cur, rfl, hg, by rw [Lib.iterAt_other _ _ _ _ _ (by omega)]; exact hh, h1, h2, h3, h4⟩
theorem own_mono {w : World} {B C : Nat} {e : TypeId} {m : Nat} {v : Value} {n : Nat} {xs : List Value} (h : w.ownsRow B e m v n xs) (hk : C ≤ B) : w.ownsRow C e m v n xs := by
  refine ⟨h.1, ?_⟩
  rcases h.2 with h0 | ⟨g, cap, cur, rfl, hg, hh, h1, h2, h3, h4⟩
  · exact .inl h0
  · exact .inr ⟨g, cap, cur, rfl, by omega, hh, h1, h2, h3, h4⟩
theorem cst_rel {w wi w1 : World} {v v' : Value} {L : List Nat} {pos pos' : Nat} {s : ByteArray} {o : Obj} {t : TypeId} (hB : Below w.heap.size w wi) (hlt : w.heap.size < wi.heap.size) (hit : wi.heap[w.heap.size]? = some (.stringIter s pos')) (hown : wi.ownsRow (w.heap.size + 1) t 1 v L.length (nats L))
    (hown1 : w1.ownsRow (w.heap.size + 1) t 1 v' (L.length + 1) (nats L ++ [.int .i64 (pos : Int)])) (hgrow : (wi.alloc o).grownBy w1 v.ownBlock) :
    w1.heap[w.heap.size]? = some (.stringIter s pos') ∧ w1.ownsRow (w.heap.size + 1) t 1 v' (L ++ [pos]).length (nats (L ++ [pos])) ∧ Below w.heap.size w w1 := by
  have h1 : Below w.heap.size w w1 := (hB.alloc (by omega) o).grown hgrow (by simp; omega) (fun k e => by have := (hown.lt k e).1; omega)
  refine ⟨?_, by rw [nats_snoc, List.length_append]; exact hown1, h1⟩
  have h2 : Below (w.heap.size + 1) wi w1 := ((Below.refl (w.heap.size + 1) wi).alloc (by omega) o).grown hgrow (by simp; omega) (fun k e => (hown.lt k e).1)
  exact (h2.block w.heap.size (by omega)).trans hit
theorem cst_end {s : ByteArray} {w wr : World} {v : Value} {L : List Nat} {f pos : Nat} (hp : ¬ pos < s.size) (h : L ++ startsFrom s f pos = starts s) (hown : wr.ownsRow (w.heap.size + 1) 3 1 v L.length (nats L)) (hB : Below w.heap.size w wr) : StartsPost s w (.returned v) wr :=
  starts_end hp h (own_mono hown (by omega)) hB

set_option maxHeartbeats 1000000 in
theorem cstarts_any (s : ByteArray) (w : World) (hs : s.size ≤ 1048576) : Calls Tryd.prog 30 #[.string s] w (StartsPost s w) := by
  obtain ⟨i0, hi, hz0, hz1, hz2⟩ := info_parts info_int
  go_enter Tryd.func30, Tryd.ntmps30
  go_wp2
  go_loopw [3] (fun v wr => ∃ (pos f : Nat) (L : List Nat), wr.heap[w.heap.size]? = some (.stringIter s pos) ∧ wr.ownsRow (w.heap.size + 1) 3 1 v L.length (nats L) ∧ Hid (L ++ startsFrom s f pos = starts s) ∧ L.length ≤ pos ∧ s.size ≤ pos + f ∧ pos ≤ s.size ∧ Below w.heap.size w wr) (fun _ wr => s.size - wr.iterPos w.heap.size)
  case atStart => exact ⟨0, s.size, [], World.iter_heap _ _ _, World.ownsRow_nil _ _ _ _, rfl, by simp, by omega, by omega, (Below.refl _ _).alloc (Nat.le_refl _) _⟩
  case round =>
    obtain ⟨pos, f, L, hit, hown, HL, hLp, hf, hpos, hB⟩ := hrel
    by_cases hp : pos < s.size
    · have hnx : ∀ ty, (Instr.next (.pointer (some ⟨w.heap.size, 0, none⟩)) true ty).run Tryd.prog wr = _ := fun ty => Lib.run_next_any_at wr w.heap.size s pos ty hit hp
      have hd := dec_in s pos hp
      obtain ⟨wi, hwi⟩ : ∃ wi, wi = wr.iterAt w.heap.size s (pos + (Utf8.decode s pos).2) := ⟨_, rfl⟩
      have hBi : Below w.heap.size w wi := by rw [hwi]; exact Lib.below_iterAt hB (Nat.le_refl _) _ _
      have hiti : wi.heap[w.heap.size]? = some (.stringIter s (pos + (Utf8.decode s pos).2)) := by rw [hwi]; exact Lib.iterAt_heap _ _ _ _ _ hit
      have hlt : w.heap.size < wi.heap.size := by rw [hwi, Lib.iterAt_size]; exact (Array.getElem?_eq_some_iff.1 hit).1
      have howni := own_iter hown (show w.heap.size < w.heap.size + 1 by omega) s (pos + (Utf8.decode s pos).2)
      rw [← hwi] at hnx howni
      have HS := hide (starts_step hp HL.out hf)
      have HBI := hide hBi
      have HITI := hide hiti
      have HIT := hide hit
      clear hwi hBi hiti hit hB hown HL
      go_wp2_with (at_builtin; refine wpList_append_own _ rfl _ _ 73 rfl (w.heap.size + 1) 3 i0 (.int .i64 0) 1 8 Tryd.underlying73 hi hz0 hz1 hz2 rfl (by decide) _ _ _ rfl (howni.alloc _) ⟨wi.heap.size, 0, none⟩ 1 1 [.int .i64 pos] rfl rfl (cell_one_new _ _ _) (by simp [Value.oneCell']) (by unfold maxLen; omega) (by omega) (by simp; omega) ?_; intro v' w1 hown1 hgrow1 _)
      have R := hide (cst_rel HBI.out hlt HITI.out howni hown1 hgrow1)
      clear howni hown1 hgrow1
      go_roundw
      case rel => exact ⟨pos + (Utf8.decode s pos).2, f - 1, L ++ [pos], R.out.1, R.out.2.1, HS.out, by simp; omega, by omega, by omega, R.out.2.2⟩
      case measure => simp only [World.iterPos]; rw [R.out.1, HIT.out]; dsimp only; omega
    · have hnx : ∀ ty, (Instr.next (.pointer (some ⟨w.heap.size, 0, none⟩)) true ty).run Tryd.prog wr = _ := fun ty => Lib.run_next_end_at wr w.heap.size s pos ty hit hp
      go_wp2
      go_ret
      exact cst_end hp HL.out hown hB

end Go.Proofs.YtmpajkfbiocmiaaDoor
namespace Go.Proofs.YtmpajkfbiocmiaaDoor
open Go.RowKit

theorem countFrom_go {s : ByteArray} {f pos : Nat} (h : pos < s.size) : Lib.runeCountFrom s (f + 1) pos = 1 + Lib.runeCountFrom s f (pos + (Utf8.decode s pos).2) := by
  simp only [Lib.runeCountFrom]; rw [if_pos h]
theorem count_step {s : ByteArray} {f pos : Nat} {a T : Int} (hp : pos < s.size) (h : a + (Lib.runeCountFrom s f pos : Nat) = T) (hf : s.size ≤ pos + f) : a + 1 + (Lib.runeCountFrom s (f - 1) (pos + (Utf8.decode s pos).2) : Nat) = T := by
  obtain ⟨f, rfl⟩ : ∃ g, f = g + 1 := ⟨f - 1, by omega⟩
  rw [countFrom_go hp] at h
  simp only [Nat.add_sub_cancel]
  omega
theorem ret_int {a b : Int} (h : a = b) : Ending.returned (.int .i64 a) = .returned (.int .i64 b) := by rw [h]

end Go.Proofs.YtmpajkfbiocmiaaDoor
namespace Go.Proofs.YtmpajkfbiocmiaaDoor
open Go.RowKit

theorem next_out (s : ByteArray) (p : Int) (w : World) (hs : s.size ≤ 1048576) (h : p < 0 ∨ (s.size : Int) ≤ p) :
    Calls Tryd.prog 20 #[.string s, .int .i64 p] w fun e w' => e = .returned (.tuple #[.int .i32 0, .int .i64 0, .bool false]) ∧ w = w' := by
  by_cases h0 : p < 0
  all_goals
    go_enter Tryd.func20, Tryd.ntmps20
    go_wp2
    go_ret3
    exact ⟨rfl, rfl⟩
/-- What both Backs answer of a text's front. -/
def BackPost (t : ByteArray) (w : World) (e : Ending) (w' : World) : Prop :=
  e = .returned (.tuple #[.int .i32 (Utf8.decode t (lastS t)).1, .int .i64 (Utf8.decode t (lastS t)).2, .bool (runeOk t (lastS t))]) ∧ Below w.heap.size w w'

theorem dec_bound (s : ByteArray) (i : Nat) : (Utf8.decode s i).1 ≤ 1114111 := by
  unfold Utf8.decode
  dsimp only
  have lb0 := (s.get! (i + 0)).toNat_lt
  repeat' split
  all_goals simp only [Utf8.runeError]
  all_goals (try simp [Utf8.valid] at *)
  all_goals omega
end Go.Proofs.YtmpajkfbiocmiaaDoor
namespace Go.Proofs.YtmpajkfbiocmiaaDoor

/-- Does a line feed stand there? -/
def lf (s : ByteArray) (j : Nat) : Bool := (s.get! j).toNat == 10
def stP (s : ByteArray) : Nat → Nat
  | 0 => 0
  | a + 1 => if lf s a then a + 1 else stP s a
def enF (s : ByteArray) : Nat → Nat → Nat
  | 0, a => a
  | f + 1, a => if lf s a then a else enF s f (a + 1)
def enP (s : ByteArray) (a : Nat) : Nat := enF s (s.size - a) a
def cntP (s : ByteArray) : Nat → Nat
  | 0 => 0
  | a + 1 => cntP s a + if lf s a then 1 else 0
theorem cntP_succ (s : ByteArray) (a : Nat) : cntP s (a + 1) = cntP s a + if lf s a then 1 else 0 := rfl
theorem stP_succ (s : ByteArray) (a : Nat) : stP s (a + 1) = if lf s a then a + 1 else stP s a := rfl
theorem lf_list (s : ByteArray) (j : Nat) (h : j < s.size) : s.get! j = s.data.toList[j]'(by simpa using h) := by
  show s.data[j]! = _
  rw [getElem!_pos s.data j h]
  simp
theorem lf_ext (s : ByteArray) (a b : Nat) : (s.extract a b).data.toList = (s.data.toList.drop a).take (b - a) := by
  rw [ByteArray.data_extract, Array.toList_extract, List.extract_eq_take_drop]
theorem stP_le (s : ByteArray) : ∀ a, stP s a ≤ a
  | 0 => Nat.le_refl _
  | a + 1 => by unfold stP; split; exact Nat.le_refl _; have := stP_le s a; omega
theorem stP_spec (s : ByteArray) : ∀ a, (stP s a = 0 ∨ lf s (stP s a - 1) = true) ∧ ∀ j, stP s a ≤ j → j < a → lf s j = false
  | 0 => ⟨.inl rfl, fun j _ h => by omega⟩
  | a + 1 => by
    unfold stP
    by_cases h : lf s a = true
    · rw [if_pos h]
      exact ⟨.inr h, fun j h1 h2 => by omega⟩
    · rw [if_neg h]
      refine ⟨(stP_spec s a).1, fun j h1 h2 => ?_⟩
      by_cases e : j = a
      · subst e; simpa using h
      · exact (stP_spec s a).2 j h1 (by omega)
theorem stP_eq (s : ByteArray) : ∀ a k, k ≤ a → (k = 0 ∨ lf s (k - 1) = true) → (∀ j, k ≤ j → j < a → lf s j = false) → stP s a = k
  | 0, k, h, _, _ => by simp [stP]; omega
  | a + 1, k, h, h1, h2 => by
    unfold stP
    by_cases e : k = a + 1
    · subst e
      rcases h1 with h1 | h1
      · omega
      · rw [if_pos (by simpa using h1)]
    · rw [if_neg (by rw [h2 a (by omega) (by omega)]; simp)]
      exact stP_eq s a k (by omega) h1 (fun j h3 h4 => h2 j h3 (by omega))
theorem enF_spec (s : ByteArray) : ∀ f a, a + f = s.size → a ≤ enF s f a ∧ enF s f a ≤ s.size ∧ (∀ j, a ≤ j → j < enF s f a → lf s j = false) ∧ (enF s f a = s.size ∨ lf s (enF s f a) = true)
  | 0, a, h => ⟨Nat.le_refl _, by simp [enF]; omega, fun j h1 h2 => by simp [enF] at h2; omega, .inl (by simp [enF]; omega)⟩
  | f + 1, a, h => by
    unfold enF
    by_cases e : lf s a = true
    · rw [if_pos e]
      exact ⟨Nat.le_refl _, by omega, fun j h1 h2 => by omega, .inr e⟩
    · rw [if_neg e]
      obtain ⟨h1, h2, h3, h4⟩ := enF_spec s f (a + 1) (by omega)
      refine ⟨by omega, h2, fun j h5 h6 => ?_, h4⟩
      by_cases e2 : j = a
      · subst e2; simpa using e
      · exact h3 j (by omega) h6
theorem enP_spec (s : ByteArray) (a : Nat) (h : a ≤ s.size) : a ≤ enP s a ∧ enP s a ≤ s.size ∧ (∀ j, a ≤ j → j < enP s a → lf s j = false) ∧ (enP s a = s.size ∨ lf s (enP s a) = true) := enF_spec s _ a (by omega)
theorem enP_eq (s : ByteArray) (a e : Nat) (h1 : a ≤ e) (h2 : e ≤ s.size) (h3 : ∀ j, a ≤ j → j < e → lf s j = false) (h4 : e = s.size ∨ lf s e = true) : enP s a = e := by
  obtain ⟨g1, g2, g3, g4⟩ := enP_spec s a (by omega)
  rcases Nat.lt_trichotomy (enP s a) e with h | h | h
  · rcases g4 with g4 | g4
    · omega
    · rw [h3 _ g1 h] at g4; cases g4
  · exact h
  · rcases h4 with h4 | h4
    · omega
    · rw [g3 _ h1 h] at h4; cases h4
theorem enP_step (s : ByteArray) (a : Nat) (h : a < s.size) (hl : lf s a = false) : enP s (a + 1) = enP s a := by
  obtain ⟨g1, g2, g3, g4⟩ := enP_spec s (a + 1) (by omega)
  exact (enP_eq s a _ (by omega) g2 (fun j h1 h2 => by by_cases e : j = a; (subst e; exact hl); exact g3 j (by omega) h2) g4).symm
theorem enP_hit (s : ByteArray) (a : Nat) (h : a < s.size) (hl : lf s a = true) : enP s a = a := enP_eq s a a (Nat.le_refl _) (by omega) (fun j h1 h2 => by omega) (.inr hl)
theorem enP_end (s : ByteArray) : enP s s.size = s.size := enP_eq s _ _ (Nat.le_refl _) (Nat.le_refl _) (fun j h1 h2 => by omega) (.inl rfl)
theorem cntP_le (s : ByteArray) : ∀ a, cntP s a ≤ a
  | 0 => Nat.le_refl _
  | a + 1 => by unfold cntP; have := cntP_le s a; split <;> omega
theorem cntP_mono (s : ByteArray) {a b : Nat} (h : a ≤ b) : cntP s a ≤ cntP s b := by
  induction h with
  | refl => exact Nat.le_refl _
  | step h ih => rw [cntP_succ]; omega
theorem cntP_flat (s : ByteArray) {a b : Nat} (h : a ≤ b) (hn : ∀ j, a ≤ j → j < b → lf s j = false) : cntP s b = cntP s a := by
  induction h with
  | refl => rfl
  | @step m h ih => rw [cntP_succ, hn m h (by omega), ih (fun j h1 h2 => hn j h1 (by omega))]; simp
theorem cntP_st (s : ByteArray) (a : Nat) : cntP s (stP s a) = cntP s a := (cntP_flat s (stP_le s a) (stP_spec s a).2).symm

/-- First, by the document: where the last line feed was that counted, and how many lines are still wanted, behind so many bytes. -/
def fsA (s : ByteArray) (L : Nat) : Nat → Nat × Nat
  | 0 => (0, L)
  | i + 1 => if (fsA s L i).2 = 0 then fsA s L i else if lf s i then (i + 1, (fsA s L i).2 - 1) else fsA s L i
def fsP (s : ByteArray) (L : Nat) : Nat := (fsA s L s.size).1
theorem fsA_succ (s : ByteArray) (L i : Nat) : fsA s L (i + 1) = if (fsA s L i).2 = 0 then fsA s L i else if lf s i then (i + 1, (fsA s L i).2 - 1) else fsA s L i := rfl
theorem fsA_stop (s : ByteArray) (L i : Nat) (h : (fsA s L i).2 = 0) : ∀ k, fsA s L (i + k) = fsA s L i
  | 0 => rfl
  | k + 1 => by
    have ih := fsA_stop s L i h k
    rw [← Nat.add_assoc]
    show (if (fsA s L (i + k)).2 = 0 then fsA s L (i + k) else _) = _
    rw [ih, if_pos h]
theorem fsA_done (s : ByteArray) (L i : Nat) (h : (fsA s L i).2 = 0) (hi : i ≤ s.size) : fsP s L = (fsA s L i).1 := by
  unfold fsP
  rw [show s.size = i + (s.size - i) by omega, fsA_stop s L i h]
/-- As long as no more line feeds were passed than are wanted. -/
theorem fsA_cnt (s : ByteArray) (L : Nat) : ∀ i, cntP s i ≤ L → fsA s L i = (stP s i, L - cntP s i)
  | 0, _ => rfl
  | i + 1, h => by
    have hm := cntP_mono s (show i ≤ i + 1 by omega)
    have ih := fsA_cnt s L i (by omega)
    rw [cntP_succ] at h
    rw [fsA_succ, stP_succ, cntP_succ, ih]
    by_cases hl : lf s i = true
    · rw [if_pos hl] at h
      rw [if_pos hl, if_pos hl, if_pos hl, if_neg (show ¬ L - cntP s i = 0 by omega)]
      rw [Nat.sub_sub]
    · rw [if_neg hl, if_neg hl, if_neg hl]
      simp
theorem fsP_cnt (s : ByteArray) (a : Nat) (h : a ≤ s.size) : fsP s (cntP s a) = stP s a := by
  have h1 := fsA_cnt s (cntP s a) a (Nat.le_refl _)
  rw [fsA_done s _ a (by rw [h1]; simp) h, h1]
theorem fsP_zero (s : ByteArray) : fsP s 0 = 0 := fsA_done s 0 0 rfl (by omega)
theorem fsP_le (s : ByteArray) (L : Nat) : fsP s L ≤ s.size := by
  have : ∀ i, (fsA s L i).1 ≤ i := fun i => by
    induction i with
    | zero => exact Nat.le_refl _
    | succ i ih => rw [fsA_succ]; (repeat' split) <;> omega
  exact this _
/-- First, by the program: from a line's beginning on, so many lines are wanted. -/
theorem fsA_part (s : ByteArray) (L i e : Nat) (he : i ≤ e) (hn : ∀ j, i ≤ j → j < e → lf s j = false) : fsA s L e = fsA s L i := by
  induction he with
  | refl => rfl
  | @step m h ih => rw [fsA_succ, hn m h (by omega), ih (fun j h1 h2 => hn j h1 (by omega))]; simp
theorem fsA_go (s : ByteArray) (L at1 n : Nat) (h : fsA s L at1 = (at1, n + 1)) (ha : at1 ≤ s.size) (hl : lf s (enP s at1) = true) : fsA s L (enP s at1 + 1) = (enP s at1 + 1, n) := by
  obtain ⟨h1, h2, h3, _⟩ := enP_spec s at1 ha
  have h4 := fsA_part s L at1 _ h1 h3
  show (if (fsA s L (enP s at1)).2 = 0 then _ else _) = _
  rw [h4, h, if_neg (by simp), if_pos hl]
  simp
theorem fsA_last (s : ByteArray) (L at1 n : Nat) (h : fsA s L at1 = (at1, n)) (ha : at1 ≤ s.size) (hl : enP s at1 = s.size) : fsP s L = at1 := by
  obtain ⟨h1, h2, h3, _⟩ := enP_spec s at1 ha
  have h4 := fsA_part s L at1 _ h1 h3
  unfold fsP
  rw [hl] at h4
  rw [h4, h]

/-- The nearest place. -/
def nearP (s : ByteArray) (a : Int) : Nat := (min (max a 0) s.size).toNat
theorem nearP_le (s : ByteArray) (a : Int) : nearP s a ≤ s.size := by unfold nearP; omega
theorem nearP_of (s : ByteArray) (a : Nat) (h : a ≤ s.size) : nearP s a = a := by unfold nearP; omega
/-- At, by the document. -/
def atP (s : ByteArray) (line col : Int) : Nat := fsP s line.toNat + (min (max col 0) ((enP s (fsP s line.toNat) - fsP s line.toNat : Nat) : Int)).toNat
theorem atP_of (s : ByteArray) (k : Nat) (h : k ≤ s.size) : atP s (cntP s k) ((k : Int) - stP s k) = k := by
  unfold atP
  simp only [Int.toNat_natCast]
  rw [fsP_cnt s k h]
  have h1 := stP_le s k
  have h2 := stP_spec s k
  have h3 := enP_spec s (stP s k) (by omega)
  have h4 : k ≤ enP s (stP s k) := by
    rcases Nat.lt_or_ge (enP s (stP s k)) k with h5 | h5
    · rcases h3.2.2.2 with h6 | h6
      · omega
      · rw [h2.2 _ h3.1 h5] at h6; cases h6
    · exact h5
  omega
theorem st_en (s : ByteArray) (k : Nat) (h : k ≤ s.size) : stP s (enP s k) = stP s k := by
  have h3 := enP_spec s k h
  have h2 := stP_spec s k
  have h1 := stP_le s k
  exact stP_eq s _ _ (by omega) h2.1 fun j h5 h6 => by
    by_cases e : j < k
    · exact h2.2 j h5 e
    · exact h3.2.2.1 j (by omega) h6
theorem en_st (s : ByteArray) (k : Nat) (h : k ≤ s.size) : enP s (stP s k) = enP s k := by
  have h3 := enP_spec s k h
  have h2 := stP_spec s k
  have h1 := stP_le s k
  exact enP_eq s _ _ (by omega) h3.2.1 (fun j h5 h6 => by
    by_cases e : j < k
    · exact h2.2 j h5 e
    · exact h3.2.2.1 j (by omega) h6) h3.2.2.2

/-- What the library finds. -/
theorem lf_data (s : ByteArray) (j : Nat) : s.data[j]! = s.get! j := rfl
theorem last_st (s : ByteArray) (a : Nat) (h : a ≤ s.size) : Go.Lib.lastIndexByte (s.extract 0 a) 10 + 1 = (stP s a : Nat) := by
  have hsz : (s.extract 0 a).size = a := by simp; omega
  have hg : ∀ j, j < a → ((s.extract 0 a).data[j]!) = s.get! j := fun j hj => by
    have h1 : j < (s.extract 0 a).size := by omega
    have h2 : j < s.size := by omega
    rw [lf_data, lf_list _ j h1, lf_list s j h2]
    rw [List.getElem_of_eq (lf_ext s 0 a), List.getElem_take, List.getElem_drop]
    simp only [Nat.zero_add]
  have hn : ∀ j, j < a → ((((s.extract 0 a).data[j]!).toNat : Int) ≠ 10 ↔ lf s j = false) := fun j hj => by
    rw [hg j hj]; unfold lf; generalize s.get! j = x; simp; omega
  rcases Go.Lib.lastIndexByte_spec (s.extract 0 a) 10 with ⟨e, h1⟩ | ⟨i, hi, e, h1, h2⟩
  · rw [e, hsz] at *
    rw [stP_eq s a 0 (by omega) (.inl rfl) fun j _ hj => (hn j hj).1 (h1 j hj)]
    rfl
  · rw [hsz] at hi h2
    have h3 : lf s i = true := by
      have := hn i hi
      cases hl : lf s i
      · exact absurd h1 (this.2 hl)
      · rfl
    rw [e, stP_eq s a (i + 1) (by omega) (.inr (by simpa using h3)) fun j h5 h6 => (hn j h6).1 (h2 j (by omega) h6)]
    rfl
theorem idx_spec (c : UInt8) : ∀ l : List UInt8, (Go.Lib.indexByte l c = -1 ∧ ∀ j (h : j < l.length), l[j] ≠ c) ∨ ∃ i : Nat, ∃ h : i < l.length, Go.Lib.indexByte l c = i ∧ l[i] = c ∧ ∀ j (h : j < i), l[j] ≠ c
  | [] => .inl ⟨rfl, fun j h => by simp at h⟩
  | b :: l => by
    unfold Go.Lib.indexByte
    by_cases hb : b = c
    · exact .inr ⟨0, by simp, by simp [hb], hb, fun j h => by omega⟩
    · rw [if_neg (by simpa using hb)]
      rcases idx_spec c l with ⟨e, h⟩ | ⟨i, hi, e, h1, h2⟩
      · refine .inl ⟨by rw [e]; rfl, fun j hj => ?_⟩
        cases j with
        | zero => exact hb
        | succ j => simpa using h j (by simpa using hj)
      · refine .inr ⟨i + 1, by simp; omega, ?_, by simpa using h1, fun j hj => ?_⟩
        · rw [e, if_neg (by simp)]; omega
        · cases j with
          | zero => exact hb
          | succ j => simpa using h2 j (by omega)
theorem index_en (s : ByteArray) (a : Nat) (h : a ≤ s.size) : (Go.Lib.indexByte (s.extract a s.size).data.toList 10 = -1 ∧ enP s a = s.size ∧ ∀ j, a ≤ j → j < s.size → lf s j = false) ∨ (Go.Lib.indexByte (s.extract a s.size).data.toList 10 = ((enP s a - a : Nat) : Int) ∧ enP s a < s.size ∧ lf s (enP s a) = true) := by
  have hsz : (s.extract a s.size).data.toList.length = s.size - a := by
    have : (s.extract a s.size).size = s.size - a := by simp
    rw [Array.length_toList]; exact this
  have hg : ∀ j (hj : j < (s.extract a s.size).data.toList.length), (s.extract a s.size).data.toList[j] = s.get! (a + j) := fun j hj => by
    have h2 : a + j < s.size := by omega
    rw [lf_list s _ h2]
    rw [List.getElem_of_eq (lf_ext s a s.size), List.getElem_take, List.getElem_drop]
  have hn : ∀ j (hj : j < (s.extract a s.size).data.toList.length), ((s.extract a s.size).data.toList[j] = 10 ↔ lf s (a + j) = true) := fun j hj => by
    rw [hg j hj]; unfold lf; generalize s.get! (a + j) = x; simp [← UInt8.toNat_inj]
  rcases idx_spec 10 (s.extract a s.size).data.toList with ⟨e, h1⟩ | ⟨i, hi, e, h1, h2⟩
  · have hno : ∀ j, a ≤ j → j < s.size → lf s j = false := fun j h3 h4 => by
      have := hn (j - a) (by omega)
      rw [show a + (j - a) = j by omega] at this
      cases hl : lf s j
      · rfl
      · exact absurd (this.2 hl) (h1 _ _)
    exact .inl ⟨e, enP_eq s a _ h (Nat.le_refl _) hno (.inl rfl), hno⟩
  · have he : enP s a = a + i := enP_eq s a _ (by omega) (by omega) (fun j h3 h4 => by
      have := hn (j - a) (by omega)
      rw [show a + (j - a) = j by omega] at this
      cases hl : lf s j
      · rfl
      · exact absurd (this.2 hl) (h2 _ (by omega))) (.inr ((hn i hi).1 h1))
    exact .inr ⟨by rw [e, he]; congr 1; omega, by omega, by rw [he]; exact (hn i hi).1 h1⟩
theorem count_cnt (s : ByteArray) (a : Nat) (h : a ≤ s.size) : Go.Lib.countByte (s.extract 0 a).data.toList 10 = cntP s a := by
  have hd : (s.extract 0 a).data.toList = s.data.toList.take a := by simp
  rw [hd]
  unfold Go.Lib.countByte
  induction a with
  | zero => simp [cntP]
  | succ a ih =>
    have hlt : a < s.data.toList.length := by rw [Array.length_toList]; exact h
    rw [List.take_succ_eq_append_getElem hlt, List.count_append, ih (by omega) (by simp)]
    rw [cntP_succ]
    congr 1
    rw [← lf_list s a h]
    unfold lf
    by_cases hc : s.get! a = 10
    · rw [hc]; rfl
    · have h9 : ¬ (s.get! a).toNat = 10 := fun e => hc (UInt8.toNat_inj.1 e)
      simp [hc, h9]
end Go.Proofs.YtmpajkfbiocmiaaDoor
namespace Go.Proofs.YtmpajkfbiocmiaaDoor

/-- The place of the rune of number k; the text's end behind the last one. -/
def plc (s : ByteArray) (k : Nat) : Nat := (starts s)[k]?.getD s.size
def nR (s : ByteArray) : Nat := (starts s).length
theorem plc_end {s : ByteArray} {k : Nat} (h : nR s ≤ k) : plc s k = s.size := by
  unfold plc; rw [List.getElem?_eq_none h]; rfl
theorem plc_mem {s : ByteArray} {k : Nat} (h : k < nR s) : plc s k ∈ starts s := by
  unfold plc; rw [List.getElem?_eq_getElem h]; exact List.getElem_mem h
theorem plc_lt {s : ByteArray} {k : Nat} (h : k < nR s) : plc s k < s.size := (starts_lt s _ _ _ (plc_mem h)).2
theorem plc_le (s : ByteArray) (k : Nat) : plc s k ≤ s.size := by
  by_cases h : k < nR s
  · exact Nat.le_of_lt (plc_lt h)
  · rw [plc_end (by omega)]; exact Nat.le_refl _
theorem plc_of_getD {s : ByteArray} {k : Nat} (h : k < nR s) : (starts s)[k]?.getD 0 = plc s k := by
  unfold plc; rw [List.getElem?_eq_getElem h]; rfl
theorem starts_nil {s : ByteArray} (h : nR s = 0) : s.size = 0 := by
  by_cases h0 : 0 < s.size
  · have := (lastS_spec h0).2.2.1
    unfold nR at h; omega
  · omega
theorem plc_next {s : ByteArray} {k : Nat} (h : k < nR s) : plc s (k + 1) = plc s k + (Utf8.decode s (plc s k)).2 := by
  by_cases h1 : k + 1 < nR s
  · have h2 := starts_next s s.size 0 k h1
    rw [show startsFrom s s.size 0 = starts s from rfl, plc_of_getD h1, plc_of_getD h] at h2
    exact h2
  · have hs : 0 < s.size := by have := plc_lt h; omega
    have hl := lastS_spec hs
    have he : lastS s = plc s k := by
      unfold lastS
      rw [show (starts s).length - 1 = k by unfold nR at h h1; omega, plc_of_getD h]
    rw [plc_end (by omega), ← he, hl.2.1]
theorem plc_zero (s : ByteArray) : plc s 0 = 0 := by
  by_cases h : 0 < s.size
  · have h1 : 0 < nR s := by have := (lastS_spec h).2.2.1; unfold nR; omega
    rw [← plc_of_getD h1]; exact starts_head h
  · have := plc_le s 0; omega
theorem plc_succ_lt {s : ByteArray} {k : Nat} (h : k < nR s) : plc s k < plc s (k + 1) := by
  have := plc_next h
  have := dec_in s _ (plc_lt h)
  omega
theorem plc_mono {s : ByteArray} {j k : Nat} (h : j < k) (hk : k ≤ nR s) : plc s j < plc s k := by
  induction h with
  | refl => exact plc_succ_lt (by omega)
  | @step m h ih => have h1 := ih (by omega); have h2 : plc s m < plc s (m + 1) := plc_succ_lt (by omega); exact Nat.lt_trans h1 h2
theorem plc_inj {s : ByteArray} {j k : Nat} (hj : j ≤ nR s) (hk : k ≤ nR s) (h : plc s j = plc s k) : j = k := by
  rcases Nat.lt_trichotomy j k with h1 | h1 | h1
  · have := plc_mono h1 hk; omega
  · exact h1
  · have := plc_mono h1 hj; omega
theorem plc_lt_iff {s : ByteArray} {j k : Nat} (hj : j ≤ nR s) (hk : k ≤ nR s) : plc s j < plc s k ↔ j < k := by
  constructor
  · intro h
    rcases Nat.lt_trichotomy j k with h1 | h1 | h1
    · exact h1
    · subst h1; omega
    · have := plc_mono h1 hj; omega
  · exact fun h => plc_mono h hk
theorem nR_le (s : ByteArray) : nR s ≤ s.size := starts_len s
theorem mem_plc {s : ByteArray} {p : Nat} (h : p ∈ starts s) : ∃ k, k < nR s ∧ plc s k = p := by
  obtain ⟨k, hk, e⟩ := List.getElem_of_mem h
  exact ⟨k, hk, by unfold plc; rw [List.getElem?_eq_getElem hk]; exact e⟩
/-- An ASCII byte is a rune's place. -/
theorem lf_mem {s : ByteArray} {p : Nat} (hp : p < s.size) (h : lf s p = true) : p ∈ starts s := by
  unfold lf at h
  exact start_mem hp (by simp at h; omega) s.size 0 (by omega) (by omega)
theorem lf_step {s : ByteArray} {p : Nat} (h : lf s p = true) : (Utf8.decode s p).2 = 1 := by
  unfold lf at h
  rw [(dec_facts s p).2.2.2.1 (by simp at h; omega)]
/-- Is it a place? -/
def isPlc (s : ByteArray) (p : Nat) : Prop := ∃ k, k ≤ nR s ∧ plc s k = p
theorem isPlc_behind {s : ByteArray} {p : Nat} (hp : p < s.size) (h : lf s p = true) : isPlc s (p + 1) := by
  obtain ⟨k, hk, e⟩ := mem_plc (lf_mem hp h)
  exact ⟨k + 1, hk, by rw [plc_next hk, e, lf_step h]⟩
theorem isPlc_at {s : ByteArray} {p : Nat} (hp : p < s.size) (h : lf s p = true) : isPlc s p := by
  obtain ⟨k, hk, e⟩ := mem_plc (lf_mem hp h)
  exact ⟨k, Nat.le_of_lt hk, e⟩
theorem isPlc_st (s : ByteArray) (a : Nat) (ha : a ≤ s.size) : isPlc s (stP s a) := by
  rcases (stP_spec s a).1 with h | h
  · exact ⟨0, Nat.zero_le _, by rw [plc_zero, h]⟩
  · have h1 := stP_le s a
    by_cases h0 : stP s a = 0
    · exact ⟨0, Nat.zero_le _, by rw [plc_zero, h0]⟩
    · have := isPlc_behind (s := s) (p := stP s a - 1) (by omega) h
      rwa [show stP s a - 1 + 1 = stP s a by omega] at this
theorem isPlc_en (s : ByteArray) (a : Nat) (ha : a ≤ s.size) : isPlc s (enP s a) := by
  obtain ⟨h1, h2, h3, h4⟩ := enP_spec s a ha
  by_cases h : enP s a = s.size
  · exact ⟨nR s, Nat.le_refl _, by rw [plc_end (Nat.le_refl _), h]⟩
  · exact isPlc_at (by omega) (by rcases h4 with h4 | h4; exact absurd h4 h; exact h4)

/-- How many runes stand ahead of a place. -/
def rnN (s : ByteArray) (a : Int) : Nat := ((starts s).filter fun (k : Nat) => decide ((k : Int) < a)).length
theorem starts_sorted (s : ByteArray) : ∀ f pos, (startsFrom s f pos).Pairwise (· < ·)
  | 0, _ => List.Pairwise.nil
  | f + 1, pos => by
    by_cases h : pos < s.size
    · rw [startsFrom_go h, List.pairwise_cons]
      refine ⟨fun k hk => ?_, starts_sorted s f _⟩
      have := starts_lt s f _ k hk
      have := dec_in s pos h
      omega
    · rw [startsFrom_end h]; exact List.Pairwise.nil
theorem rnN_le (s : ByteArray) (a : Int) : rnN s a ≤ nR s := List.length_filter_le _ _
theorem filter_sorted : ∀ (l : List Nat) (a : Int) (k : Nat), l.Pairwise (· < ·) → k ≤ l.length → (∀ (j x : Nat), l[j]? = some x → (j < k ↔ (x : Int) < a)) → (l.filter fun (x : Nat) => decide ((x : Int) < a)).length = k
  | [], a, k, _, hk, _ => by simp at hk; simp [hk]
  | b :: l, a, k, hp, hk, h => by
    rw [List.pairwise_cons] at hp
    have h0 := h 0 b rfl
    cases k with
    | zero =>
      rw [List.filter_eq_nil_iff.2]
      · rfl
      · intro x hx
        have h1 : ¬ (b : Int) < a := fun e => by have := h0.2 e; omega
        rcases List.mem_cons.1 hx with rfl | hx
        · simpa using h1
        · have := hp.1 x hx; simp; omega
    | succ k =>
      rw [List.filter_cons, if_pos (by simpa using h0.1 (by omega)), List.length_cons, filter_sorted l a k hp.2 (by simpa using hk)]
      intro j x hx
      have := h (j + 1) x (by simpa using hx)
      omega
theorem rnN_eq {s : ByteArray} {a : Int} {k : Nat} (hk : k ≤ nR s) (h1 : ∀ j, j < k → (plc s j : Int) < a) (h2 : k < nR s → a ≤ (plc s k : Int)) : rnN s a = k := by
  refine filter_sorted (starts s) a k (starts_sorted s _ _) hk fun j x hx => ?_
  have hj : j < nR s := (List.getElem?_eq_some_iff.1 hx).1
  have e : plc s j = x := by unfold plc; rw [hx]; rfl
  constructor
  · intro h; rw [← e]; exact h1 j h
  · intro h
    rcases Nat.lt_or_ge j k with h3 | h3
    · exact h3
    · have h4 := h2 (by omega)
      rcases Nat.lt_or_ge k j with h5 | h5
      · have := plc_mono h5 (Nat.le_of_lt hj); omega
      · obtain rfl : j = k := by omega
        omega
theorem rnN_plc {s : ByteArray} {k : Nat} (hk : k ≤ nR s) : rnN s (plc s k) = k :=
  rnN_eq hk (fun j hj => by have := plc_mono hj hk; omega) (fun _ => Int.le_refl _)
theorem rnN_zero {s : ByteArray} {a : Int} (h : a ≤ 0) : rnN s a = 0 := rnN_eq (Nat.zero_le _) (fun j hj => by omega) (fun _ => by omega)
theorem rnN_all {s : ByteArray} {a : Int} (h : (s.size : Int) ≤ a) : rnN s a = nR s := rnN_eq (Nat.le_refl _) (fun j hj => by have := plc_lt hj; omega) (fun h => by omega)
/-- The place behind so many runes. -/
def plcI (s : ByteArray) (r : Int) : Nat := if r < 1 then 0 else plc s (min r.toNat (nR s))
theorem plcI_nat (s : ByteArray) (k : Nat) : plcI s k = plc s (min k (nR s)) := by
  unfold plcI
  by_cases h : k = 0
  · subst h; rw [if_pos (by omega), Nat.zero_min, plc_zero]
  · rw [if_neg (by omega)]; simp
theorem plcI_of {s : ByteArray} {k : Nat} (h : k ≤ nR s) : plcI s k = plc s k := by rw [plcI_nat, Nat.min_eq_left h]
end Go.Proofs.YtmpajkfbiocmiaaDoor
namespace Go.Proofs.YtmpajkfbiocmiaaDoor
open Go.RowKit

def cls (r : Int) : Int :=
  if r = 32 ∨ r = 9 ∨ r = 10 ∨ r = 13 then 0
  else if (48 ≤ r ∧ r ≤ 57) ∨ (65 ≤ r ∧ r ≤ 90) ∨ (97 ≤ r ∧ r ≤ 122) ∨ r = 95 ∨ 128 ≤ r then 1 else 2

theorem ret_cls {a b : Int} (h : a = b) : Ending.returned (.int .i64 a) = .returned (.int .i64 b) := by rw [h]

end Go.Proofs.YtmpajkfbiocmiaaDoor
namespace Go.Proofs.YtmpajkfbiocmiaaDoor

/-- Of what class the rune of number k is; -1: there is none. -/
def cl (s : ByteArray) (k : Nat) : Int := if k < nR s then cls ((Utf8.decode s (plc s k)).1 : Int) else -1
theorem cls_range (r : Int) : 0 ≤ cls r ∧ cls r ≤ 2 := by unfold cls; (repeat' split) <;> omega
theorem cl_in {s : ByteArray} {k : Nat} (h : k < nR s) : 0 ≤ cl s k ∧ cl s k ≤ 2 := by unfold cl; rw [if_pos h]; exact cls_range _
theorem cl_out {s : ByteArray} {k : Nat} (h : nR s ≤ k) : cl s k = -1 := by unfold cl; rw [if_neg (by omega)]
def clB (s : ByteArray) (k : Nat) : Int := if k = 0 then -1 else cl s (k - 1)
/-- As long as it is so, on. -/
def skF (c : Nat → Int) (p : Int → Bool) : Nat → Nat → Nat
  | 0, k => k
  | f + 1, k => if p (c k) then skF c p f (k + 1) else k
def skK (s : ByteArray) (p : Int → Bool) (k : Nat) : Nat := skF (cl s) p (nR s - k) k
theorem skF_spec (c : Nat → Int) (p : Int → Bool) (n : Nat) : ∀ f k, k + f = n → k ≤ skF c p f k ∧ skF c p f k ≤ n ∧ (∀ j, k ≤ j → j < skF c p f k → p (c j) = true) ∧ (skF c p f k < n → p (c (skF c p f k)) = false)
  | 0, k, h => ⟨Nat.le_refl _, by simp [skF]; omega, fun j h1 h2 => by simp [skF] at h2; omega, fun h1 => by simp [skF] at h1; omega⟩
  | f + 1, k, h => by
    unfold skF
    by_cases e : p (c k) = true
    · rw [if_pos e]
      obtain ⟨h1, h2, h3, h4⟩ := skF_spec c p n f (k + 1) (by omega)
      exact ⟨by omega, h2, fun j h5 h6 => by by_cases e2 : j = k; (subst e2; exact e); exact h3 j (by omega) h6, h4⟩
    · rw [if_neg e]
      exact ⟨Nat.le_refl _, by omega, fun j h1 h2 => by omega, fun _ => by simpa using e⟩
theorem skK_spec (s : ByteArray) (p : Int → Bool) (k : Nat) (h : k ≤ nR s) : k ≤ skK s p k ∧ skK s p k ≤ nR s ∧ (∀ j, k ≤ j → j < skK s p k → p (cl s j) = true) ∧ (skK s p k < nR s → p (cl s (skK s p k)) = false) := skF_spec _ _ _ _ _ (by omega)
theorem skK_go {s : ByteArray} {p : Int → Bool} {k : Nat} (h : k < nR s) (hp : p (cl s k) = true) : skK s p (k + 1) = skK s p k := by
  unfold skK
  obtain ⟨f, e⟩ : ∃ f, nR s - k = f + 1 := ⟨nR s - k - 1, by omega⟩
  rw [e, show nR s - (k + 1) = f by omega]
  show _ = if p (cl s k) then _ else _
  rw [if_pos hp]
theorem skK_stop {s : ByteArray} {p : Int → Bool} {k : Nat} (hp : p (cl s k) = false) : skK s p k = k := by
  unfold skK
  cases nR s - k with
  | zero => rfl
  | succ f => show (if p (cl s k) then _ else _) = _; rw [hp]; rfl
theorem skK_end {s : ByteArray} {p : Int → Bool} {k : Nat} (h : nR s ≤ k) : skK s p k = k := by
  unfold skK
  rw [show nR s - k = 0 by omega]; rfl
/-- As long as what stands ahead is so, back. -/
def bkK (s : ByteArray) (p : Int → Bool) : Nat → Nat
  | 0 => 0
  | k + 1 => if p (cl s k) then bkK s p k else k + 1
theorem bkK_le (s : ByteArray) (p : Int → Bool) : ∀ k, bkK s p k ≤ k
  | 0 => Nat.le_refl _
  | k + 1 => by unfold bkK; have := bkK_le s p k; split <;> omega
theorem bkK_go {s : ByteArray} {p : Int → Bool} {k : Nat} (hp : p (cl s k) = true) : bkK s p (k + 1) = bkK s p k := by show (if _ then _ else _) = _; rw [if_pos hp]
theorem bkK_stop {s : ByteArray} {p : Int → Bool} {k : Nat} (hp : p (cl s k) = false) : bkK s p (k + 1) = k + 1 := by show (if _ then _ else _) = _; rw [hp]; rfl

def isBlank (c : Int) : Bool := c == 0
def isWord (c : Int) : Bool := c == 1
def isBetween (c : Int) : Bool := c != 1
def isOther (a : Int) (c : Int) : Bool := c == a && decide (0 < c)

def stK (s : ByteArray) (k : Nat) : Nat := rnN s (stP s (plc s k))
def enK (s : ByteArray) (k : Nat) : Nat := rnN s (enP s (plc s k))
theorem plc_stK (s : ByteArray) (k : Nat) : plc s (stK s k) = stP s (plc s k) := by
  obtain ⟨j, hj, e⟩ := isPlc_st s (plc s k) (plc_le s k)
  unfold stK; rw [← e, rnN_plc hj]
theorem plc_enK (s : ByteArray) (k : Nat) : plc s (enK s k) = enP s (plc s k) := by
  obtain ⟨j, hj, e⟩ := isPlc_en s (plc s k) (plc_le s k)
  unfold enK; rw [← e, rnN_plc hj]
theorem stK_n (s : ByteArray) (k : Nat) : stK s k ≤ nR s := rnN_le _ _
theorem enK_n (s : ByteArray) (k : Nat) : enK s k ≤ nR s := rnN_le _ _
theorem stK_le {s : ByteArray} {k : Nat} (h : k ≤ nR s) : stK s k ≤ k := by
  rcases Nat.lt_or_ge k (stK s k) with h1 | h1
  · have h2 := plc_mono h1 (stK_n s k)
    rw [plc_stK] at h2
    have := stP_le s (plc s k); omega
  · exact h1
theorem enK_ge {s : ByteArray} {k : Nat} (h : k ≤ nR s) : k ≤ enK s k := by
  rcases Nat.lt_or_ge (enK s k) k with h1 | h1
  · have h2 := plc_mono h1 h
    rw [plc_enK] at h2
    have := (enP_spec s (plc s k) (plc_le s k)).1; omega
  · exact h1
def upK (s : ByteArray) (k : Nat) : Nat := if stK s k = 0 then k else min (stK s (stK s k - 1) + k - stK s k) (stK s k - 1)
def downK (s : ByteArray) (k : Nat) : Nat := if enK s k = nR s then k else min (enK s k + 1 + k - stK s k) (enK s (enK s k + 1))
def tailK (s : ByteArray) (k : Nat) : Nat :=
  if skK s isBlank (min (k + 1) (nR s)) < skK s (isOther (cl s (skK s isBlank (min (k + 1) (nR s))))) (skK s isBlank (min (k + 1) (nR s))) then skK s (isOther (cl s (skK s isBlank (min (k + 1) (nR s))))) (skK s isBlank (min (k + 1) (nR s))) - 1 else skK s isBlank (min (k + 1) (nR s))
/-- A motion, once. -/
def onceK (s : ByteArray) (which : Int) (k : Nat) : Nat :=
  if which = 0 then k - 1 else if which = 1 then min (k + 1) (nR s) else if which = 2 then stK s k else if which = 3 then enK s k
  else if which = 4 then upK s k else if which = 5 then downK s k else if which = 6 then skK s isWord (skK s isBetween k) else if which = 7 then bkK s isWord (bkK s isBetween k)
  else if which = 8 then skK s isBlank (skK s (isOther (cl s k)) k) else if which = 9 then bkK s (isOther (clB s (bkK s isBlank k))) (bkK s isBlank k) else if which = 10 then tailK s k
  else if which = 11 then min (skK s isBlank (stK s k)) (enK s k) else if which = 12 then 0 else if which = 13 then nR s else k
theorem upK_le {s : ByteArray} {k : Nat} (h : k ≤ nR s) : upK s k ≤ k := by
  unfold upK; split
  · exact Nat.le_refl _
  · have := stK_le h; omega
theorem downK_n {s : ByteArray} {k : Nat} (h : k ≤ nR s) : downK s k ≤ nR s := by
  unfold downK; split
  · exact h
  · have := enK_n s (enK s k + 1); omega
theorem downK_ge {s : ByteArray} {k : Nat} (h : k ≤ nR s) : k ≤ downK s k := by
  unfold downK; split
  · exact Nat.le_refl _
  · rename_i h0
    have h1 := stK_le h
    have h2 := enK_ge h
    have h3 := enK_n s k
    have h4 := enK_ge (s := s) (k := enK s k + 1) (by omega)
    omega
theorem tailK_n {s : ByteArray} {k : Nat} : tailK s k ≤ nR s ∧ min (k + 1) (nR s) ≤ tailK s k := by
  have h1 := skK_spec s isBlank (min (k + 1) (nR s)) (by omega)
  unfold tailK
  generalize skK s isBlank (min (k + 1) (nR s)) = a at *
  have h2 := skK_spec s (isOther (cl s a)) a h1.2.1
  split <;> omega
theorem onceK_n {s : ByteArray} {which : Int} {k : Nat} (h : k ≤ nR s) : onceK s which k ≤ nR s := by
  unfold onceK
  by_cases h0 : which = 0
  · rw [if_pos h0]; omega
  rw [if_neg h0]
  by_cases h1 : which = 1
  · rw [if_pos h1]; omega
  rw [if_neg h1]
  by_cases h2 : which = 2
  · rw [if_pos h2]; exact stK_n s k
  rw [if_neg h2]
  by_cases h3 : which = 3
  · rw [if_pos h3]; exact enK_n s k
  rw [if_neg h3]
  by_cases h4 : which = 4
  · rw [if_pos h4]; have := upK_le h; omega
  rw [if_neg h4]
  by_cases h5 : which = 5
  · rw [if_pos h5]; exact downK_n h
  rw [if_neg h5]
  by_cases h6 : which = 6
  · rw [if_pos h6]; exact (skK_spec s _ _ (skK_spec s _ _ h).2.1).2.1
  rw [if_neg h6]
  by_cases h7 : which = 7
  · rw [if_pos h7]; have := bkK_le s isWord (bkK s isBetween k); have := bkK_le s isBetween k; omega
  rw [if_neg h7]
  by_cases h8 : which = 8
  · rw [if_pos h8]; exact (skK_spec s _ _ (skK_spec s _ _ h).2.1).2.1
  rw [if_neg h8]
  by_cases h9 : which = 9
  · rw [if_pos h9]; have := bkK_le s (isOther (clB s (bkK s isBlank k))) (bkK s isBlank k); have := bkK_le s isBlank k; omega
  rw [if_neg h9]
  by_cases h10 : which = 10
  · rw [if_pos h10]; exact tailK_n.1
  rw [if_neg h10]
  by_cases h11 : which = 11
  · rw [if_pos h11]; have := enK_n s k; omega
  rw [if_neg h11]
  by_cases h12 : which = 12
  · rw [if_pos h12]; omega
  rw [if_neg h12]
  by_cases h13 : which = 13
  · rw [if_pos h13]; omega
  rw [if_neg h13]
  exact h

/-- The line above, as the program reckons it. -/
theorem up_prog {s : ByteArray} {k : Nat} (h : k ≤ nR s) (h0 : stK s k ≠ 0) : 1 ≤ stP s (plc s k) ∧ plc s (stK s k - 1) = stP s (plc s k) - 1 ∧ min (plcI s ((rnN s (stP s (stP s (plc s k) - 1)) : Int) + (k - stK s k : Nat))) (enP s (stP s (stP s (plc s k) - 1))) = plc s (upK s k) := by
  have h1 := stP_le s (plc s k)
  have h2 := plc_le s k
  have h3 := plc_stK s k
  have h4 : 1 ≤ stP s (plc s k) := by
    have := plc_mono (s := s) (j := 0) (k := stK s k) (by omega) (stK_n s k)
    omega
  have h5 : lf s (stP s (plc s k) - 1) = true := by rcases (stP_spec s (plc s k)).1 with e | e; omega; exact e
  obtain ⟨j, hj, e⟩ := mem_plc (lf_mem (s := s) (p := stP s (plc s k) - 1) (by omega) h5)
  have h6 : stK s k = j + 1 := by
    refine plc_inj (stK_n s k) (by omega) ?_
    rw [h3, plc_next hj, e, lf_step h5]; omega
  have h7 : plc s (stK s k - 1) = stP s (plc s k) - 1 := by rw [h6, Nat.add_sub_cancel, e]
  refine ⟨h4, h7, ?_⟩
  have h8 : enP s (stP s (stP s (plc s k) - 1)) = stP s (plc s k) - 1 := by rw [en_st s _ (by omega), enP_hit s _ (by omega) h5]
  have h9 : rnN s (stP s (stP s (plc s k) - 1)) = stK s (stK s k - 1) := by unfold stK at h7 ⊢; rw [h7]
  rw [h8, h9, ← h7]
  have h10 := stK_le h
  have h11 := stK_n s k
  unfold upK
  rw [if_neg h0, show ((stK s (stK s k - 1) : Nat) : Int) + ((k - stK s k : Nat) : Int) = ((stK s (stK s k - 1) + k - stK s k : Nat) : Int) by omega, plcI_nat]
  generalize stK s (stK s k - 1) + k - stK s k = a
  rcases Nat.lt_or_ge a (stK s k - 1) with h12 | h12
  · have := plc_mono (s := s) (j := a) (k := stK s k - 1) h12 (by omega)
    rw [Nat.min_eq_left (show a ≤ nR s by omega), Nat.min_eq_left (show a ≤ stK s k - 1 by omega)]
    omega
  · rw [Nat.min_eq_right h12]
    rcases Nat.lt_or_ge (stK s k - 1) (min a (nR s)) with h13 | h13
    · have := plc_mono (s := s) (j := stK s k - 1) (k := min a (nR s)) h13 (by omega)
      omega
    · rw [show min a (nR s) = stK s k - 1 by omega]; omega
/-- The line below, as the program reckons it. -/
theorem down_prog {s : ByteArray} {k : Nat} (h : k ≤ nR s) (h0 : enK s k ≠ nR s) : enP s (plc s k) + 1 ≤ s.size ∧ min (plcI s ((rnN s (stP s (enP s (plc s k) + 1)) : Int) + (k - stK s k : Nat))) (enP s (stP s (enP s (plc s k) + 1))) = plc s (downK s k) := by
  obtain ⟨h1, h2, h3, h4⟩ := enP_spec s (plc s k) (plc_le s k)
  have h5 := plc_enK s k
  have h6 := enK_n s k
  have h7 : enP s (plc s k) < s.size := by rw [← h5]; exact plc_lt (by omega)
  have h8 : lf s (enP s (plc s k)) = true := by rcases h4 with e | e; omega; exact e
  have h9 : plc s (enK s k + 1) = enP s (plc s k) + 1 := by rw [plc_next (by omega), h5, lf_step h8]
  refine ⟨by omega, ?_⟩
  have h10 : stP s (enP s (plc s k) + 1) = enP s (plc s k) + 1 := by rw [stP_succ, if_pos h8]
  rw [h10, ← h9, rnN_plc (by omega)]
  have h11 := stK_le h
  have h12 := enK_n s (enK s k + 1)
  unfold downK
  rw [if_neg h0, show ((enK s k + 1 : Nat) : Int) + ((k - stK s k : Nat) : Int) = ((enK s k + 1 + k - stK s k : Nat) : Int) by omega, plcI_nat, ← plc_enK]
  generalize enK s k + 1 + k - stK s k = a
  generalize enK s (enK s k + 1) = b at *
  rcases Nat.lt_or_ge a b with h13 | h13
  · have := plc_mono (s := s) (j := a) (k := b) h13 h12
    rw [Nat.min_eq_left (show a ≤ nR s by omega), Nat.min_eq_left (show a ≤ b by omega)]
    omega
  · rw [Nat.min_eq_right h13]
    rcases Nat.lt_or_ge b (min a (nR s)) with h14 | h14
    · have := plc_mono (s := s) (j := b) (k := min a (nR s)) h14 (by omega)
      omega
    · rw [show min a (nR s) = b by omega]; omega
theorem min_plc {s : ByteArray} {a b : Nat} (ha : a ≤ nR s) (hb : b ≤ nR s) : min (plc s a) (plc s b) = plc s (min a b) := by
  rcases Nat.lt_trichotomy a b with h | h | h
  · have := plc_mono h hb
    rw [Nat.min_eq_left (show a ≤ b by omega)]; omega
  · subst h; simp
  · have := plc_mono h ha
    rw [Nat.min_eq_right (show b ≤ a by omega)]; omega

/-- Where a place is fixed to. -/
def fixK (s : ByteArray) (a : Int) : Nat := if (s.size : Int) ≤ a then nR s else rnN s (a + 1) - 1
theorem fixK_n (s : ByteArray) (a : Int) : fixK s a ≤ nR s := by unfold fixK; have := rnN_le s (a + 1); split <;> omega
theorem fixK_plc {s : ByteArray} {k : Nat} (h : k ≤ nR s) : fixK s (plc s k) = k := by
  unfold fixK
  by_cases hk : k < nR s
  · have h1 := plc_lt hk
    rw [if_neg (by omega), rnN_eq (k := k + 1) (by omega) (fun j hj => ?_) (fun h2 => ?_)]
    · rfl
    · rcases Nat.lt_or_ge j k with h3 | h3
      · have := plc_mono h3 h; omega
      · obtain rfl : j = k := by omega
        omega
    · have := plc_succ_lt hk; omega
  · rw [plc_end (by omega), if_pos (Int.le_refl _)]; omega
/-- So often. -/
def itK (s : ByteArray) (which : Int) : Nat → Nat → Nat
  | 0, k => k
  | m + 1, k => itK s which m (onceK s which k)
theorem itK_n {s : ByteArray} {which : Int} : ∀ m k, k ≤ nR s → itK s which m k ≤ nR s
  | 0, _, h => h
  | m + 1, k, h => itK_n m _ (onceK_n h)
theorem itK_fix {s : ByteArray} {which : Int} {k : Nat} (h : onceK s which k = k) : ∀ m, itK s which m k = k
  | 0 => rfl
  | m + 1 => by show itK s which m (onceK s which k) = k; rw [h]; exact itK_fix h m
theorem itK_snoc {s : ByteArray} {which : Int} : ∀ m k, itK s which (m + 1) k = onceK s which (itK s which m k)
  | 0, _ => rfl
  | m + 1, k => itK_snoc m (onceK s which k)
def oftenN (n : Int) : Nat := (min (max n 0) 1000).toNat
def toK (s : ByteArray) (a which n : Int) : Nat := itK s which (oftenN n) (fixK s a)
end Go.Proofs.YtmpajkfbiocmiaaDoor
namespace Go.Proofs.YtmpajkfbiocmiaaDoor
open Go.RowKit

theorem ret_i {a b : Int} (h : a = b) : Ending.returned (.int .i64 a) = .returned (.int .i64 b) := by rw [h]
theorem lf_of {s : ByteArray} {k : Nat} (hk : k < s.size) : lf s k = ((s[k].toNat : Int) == 10) := by
  unfold lf; rw [get_of hk]
  generalize s[k].toNat = n
  rw [Bool.eq_iff_iff]; simp; omega
theorem ne_t {s : ByteArray} {k : Nat} (hk : k < s.size) (h : ((s[k].toNat : Int) != 10) = true) : lf s k = false := by
  rw [lf_of hk]; simpa using h
theorem ne_f {s : ByteArray} {k : Nat} (hk : k < s.size) (h : ((s[k].toNat : Int) != 10) = false) : lf s k = true := by
  rw [lf_of hk]; simpa using h
theorem eq_t {s : ByteArray} {k : Nat} (hk : k < s.size) (h : ((s[k].toNat : Int) == 10) = true) : lf s k = true := by
  rw [lf_of hk]; exact h
theorem eq_f {s : ByteArray} {k : Nat} (hk : k < s.size) (h : ((s[k].toNat : Int) == 10) = false) : lf s k = false := by
  rw [lf_of hk]; exact h
theorem lf_p {s : ByteArray} {k : Nat} (hk : k < s.size) (h : (s[k].toNat : Int) = 10) : lf s k = true := by
  rw [lf_of hk]; simpa using h
theorem lf_np {s : ByteArray} {k : Nat} (hk : k < s.size) (h : ¬ (s[k].toNat : Int) = 10) : lf s k = false := by
  rw [lf_of hk]; simpa using h
end Go.Proofs.YtmpajkfbiocmiaaDoor
namespace Go.Proofs.YtmpajkfbiocmiaaDoor
open Go.RowKit

/-- How many of the first so many runes stand ahead of a place. -/
def rnM (s : ByteArray) (a : Int) (k : Nat) : Nat := (((starts s).take k).filter fun (x : Nat) => decide ((x : Int) < a)).length
theorem rnM_all (s : ByteArray) (a : Int) : rnM s a (starts s).length = rnN s a := by unfold rnM rnN; rw [List.take_length]
theorem rnM_le (s : ByteArray) (a : Int) (k : Nat) : rnM s a k ≤ k := by
  unfold rnM
  exact Nat.le_trans (List.length_filter_le _ _) (by rw [List.length_take]; omega)
theorem rnM_succ {s : ByteArray} {a : Int} {k x : Nat} (h : (starts s)[k]? = some x) : rnM s a (k + 1) = rnM s a k + if (x : Int) < a then 1 else 0 := by
  unfold rnM
  rw [List.take_add_one, h, List.filter_append, List.length_append]
  congr 1
  by_cases hx : (x : Int) < a <;> simp [hx]
theorem rnM_t {s : ByteArray} {a : Int} {k x : Nat} (h : (starts s)[k]? = some x) (hx : (x : Int) < a) : rnM s a (k + 1) = rnM s a k + 1 := by rw [rnM_succ h, if_pos hx]
theorem rnM_f {s : ByteArray} {a : Int} {k x : Nat} (h : (starts s)[k]? = some x) (hx : ¬ (x : Int) < a) : rnM s a (k + 1) = rnM s a k := by rw [rnM_succ h, if_neg hx]; rfl
theorem nats_len (L : List Nat) : (nats L).length = L.length := by simp [nats]
theorem place_at {s : ByteArray} {r : Int} {k : Nat} (h1 : ¬ r < 1) (hk : k = min r.toNat (nR s)) : ((starts s ++ [s.size])[k]?.getD 0 : Nat) = plcI s r := by
  unfold plcI
  rw [if_neg h1, ← hk]
  have hl : k ≤ (starts s).length := by unfold nR at hk; omega
  unfold plc
  by_cases h : k < (starts s).length
  · rw [List.getElem?_append_left h, List.getElem?_eq_getElem h]; rfl
  · rw [List.getElem?_append_right (by omega), show k - (starts s).length = 0 by omega, List.getElem?_eq_none (l := starts s) (by omega)]; rfl
theorem place_cell {s : ByteArray} {w2 : World} {B : Nat} {t : TypeId} {A2 : Option Addr} {c2 q : Nat} {r : Int} (h : w2.ownsRow B t 1 (.slice A2 ((starts s).length + 1) c2) ((starts s).length + 1) (nats (starts s) ++ [Value.int .i64 (s.size : Nat)])) (h0 : ¬ r < 1) (hq : q = min r.toNat (nR s)) :
    ∃ g, A2 = some ⟨g, 0, none⟩ ∧ w2.cell? ⟨g, q, none⟩ = some (.int .i64 (plcI s r : Nat)) := by
  have e : (starts s).length + 1 = (starts s ++ [s.size]).length := by simp
  rw [← nats_snoc, e] at h
  obtain ⟨g, e2, hc⟩ := NatsAt.of_own h q (by unfold nR at hq; simp; omega)
  rw [place_at h0 hq] at hc
  exact ⟨g, e2, hc⟩
end Go.Proofs.YtmpajkfbiocmiaaDoor
namespace Go.Proofs.YtmpajkfbiocmiaaDoor
open Go.RowKit

/-- Runes from a place on, as the program counts them. -/
def rnF (s : ByteArray) (a : Int) : Nat → Nat → Nat
  | 0, _ => 0
  | f + 1, pos => if pos < s.size ∧ (pos : Int) < a then 1 + rnF s a f (pos + (Utf8.decode s pos).2) else 0
theorem rnF_eq (s : ByteArray) (a : Int) : ∀ f pos, s.size ≤ pos + f → rnF s a f pos = ((startsFrom s f pos).filter fun (k : Nat) => decide ((k : Int) < a)).length
  | 0, _, _ => rfl
  | f + 1, pos, h => by
    unfold rnF
    by_cases hp : pos < s.size
    · rw [startsFrom_go hp]
      have hd := dec_in s pos hp
      by_cases ha : (pos : Int) < a
      · rw [if_pos ⟨hp, ha⟩, List.filter_cons, if_pos (by simpa using ha), rnF_eq s a f _ (by omega)]
        simp; omega
      · rw [if_neg (fun h => ha h.2), List.filter_cons, if_neg (by simpa using ha)]
        rw [List.filter_eq_nil_iff.2]
        · rfl
        · intro x hx
          have := starts_lt s _ _ x hx
          simp; omega
    · rw [if_neg (fun h => hp h.1), startsFrom_end hp]; rfl
theorem rnF_rnN (s : ByteArray) (a : Int) : rnF s a s.size 0 = rnN s a := rnF_eq s a _ _ (by omega)
theorem rnF_go {s : ByteArray} {a : Int} {f pos : Nat} {m T : Int} (hp : pos < s.size) (ha : (pos : Int) < a) (h : m + (rnF s a f pos : Nat) = T) (hf : s.size ≤ pos + f) : m + 1 + (rnF s a (f - 1) (pos + (Utf8.decode s pos).2) : Nat) = T := by
  obtain ⟨f, rfl⟩ : ∃ g, f = g + 1 := ⟨f - 1, by omega⟩
  have e : rnF s a (f + 1) pos = 1 + rnF s a f (pos + (Utf8.decode s pos).2) := by
    show (if _ then _ else _) = _
    rw [if_pos ⟨hp, ha⟩]
  rw [e] at h
  simp only [Nat.add_sub_cancel]
  omega
theorem rnF_stop {s : ByteArray} {a : Int} {f pos : Nat} (h : ¬ (pos < s.size ∧ (pos : Int) < a)) : rnF s a f pos = 0 := by
  cases f with
  | zero => rfl
  | succ f => show (if _ then _ else _) = _; rw [if_neg h]
end Go.Proofs.YtmpajkfbiocmiaaDoor
namespace Go.Proofs.YtmpajkfbiocmiaaDoor
open Go.RowKit

theorem back_plc {s : ByteArray} {k : Nat} (h : k < nR s) : Utf8.decode (s.extract 0 (plc s (k + 1))) (lastS (s.extract 0 (plc s (k + 1)))) = Utf8.decode s (plc s k) := by
  have h1 := back_at (plc_mem h)
  rw [← plc_next h] at h1
  have h2 := plc_le s (k + 1)
  have h3 := plc_succ_lt h
  rw [last_eq (by simp; omega)] at h1
  exact h1
end Go.Proofs.YtmpajkfbiocmiaaDoor
namespace Go.Proofs.YtmpajkfbiocmiaaDoor
open Go.RowKit

end Go.Proofs.YtmpajkfbiocmiaaDoor
namespace Go.Proofs.YtmpajkfbiocmiaaDoor
open Go.RowKit

theorem min_cast (a b : Nat) : min (a : Int) (b : Int) = ((min a b : Nat) : Int) := by omega
theorem below_new {w W : World} (h : Below w.heap.size w W) (o : Obj) : Below w.heap.size w (W.alloc o) := h.alloc h.size o
end Go.Proofs.YtmpajkfbiocmiaaDoor
namespace Go.Proofs.YtmpajkfbiocmiaaDoor
open Go.RowKit

def OncePost (s : ByteArray) (k : Nat) (which : Int) (w : World) (e : Ending) (w' : World) : Prop := e = .returned (.int .i64 (plc s (onceK s which k) : Nat)) ∧ Below w.heap.size w w'
theorem once_end {s : ByteArray} {k : Nat} {which : Int} {w w' : World} {x : Int} (hx : x = (plc s (onceK s which k) : Nat)) (hb : Below w.heap.size w w') : OncePost s k which w (.returned (.int .i64 x)) w' := ⟨by rw [hx], hb⟩
end Go.Proofs.YtmpajkfbiocmiaaDoor
namespace Go.Proofs.YtmpajkfbiocmiaaDoor
open Go.RowKit

theorem rn_exists (s : ByteArray) (b : Int) : ∀ n, n ≤ nR s → ∃ k, k ≤ n ∧ (∀ j, j < k → (plc s j : Int) < b) ∧ (k < n → b ≤ (plc s k : Int))
  | 0, _ => ⟨0, Nat.le_refl _, fun j h => by omega, fun h => by omega⟩
  | n + 1, h => by
    obtain ⟨k, h1, h2, h3⟩ := rn_exists s b n (by omega)
    by_cases hk : k = n
    · subst hk
      by_cases hb : (plc s k : Int) < b
      · exact ⟨k + 1, Nat.le_refl _, fun j hj => by
          by_cases e : j = k
          · subst e; exact hb
          · exact h2 j (by omega), fun h => by omega⟩
      · exact ⟨k, by omega, h2, fun _ => by omega⟩
    · exact ⟨k, by omega, h2, fun _ => h3 (by omega)⟩
theorem rnN_spec (s : ByteArray) (b : Int) : (∀ j, j < rnN s b → (plc s j : Int) < b) ∧ (rnN s b < nR s → b ≤ (plc s (rnN s b) : Int)) := by
  obtain ⟨k, h1, h2, h3⟩ := rn_exists s b (nR s) (Nat.le_refl _)
  rw [rnN_eq h1 h2 h3]
  exact ⟨h2, h3⟩
theorem rnN_iff {s : ByteArray} {b : Int} {j : Nat} (hj : j < nR s) : (plc s j : Int) < b ↔ j < rnN s b := by
  obtain ⟨h1, h2⟩ := rnN_spec s b
  constructor
  · intro h
    rcases Nat.lt_or_ge j (rnN s b) with h3 | h3
    · exact h3
    · have h4 := h2 (by omega)
      rcases Nat.lt_or_ge (rnN s b) j with h5 | h5
      · have := plc_mono h5 (Nat.le_of_lt hj); omega
      · obtain e : rnN s b = j := by omega
        rw [e] at h4; omega
  · exact h1 j
/-- The last of the first so many places that is not behind one. -/
def fxL (s : ByteArray) (a : Int) : Nat → Nat
  | 0 => 0
  | i + 1 => if (plc s i : Int) ≤ a then plc s i else fxL s a i
theorem fxL_t {s : ByteArray} {a : Int} {i : Nat} (h : (plc s i : Int) ≤ a) : fxL s a (i + 1) = plc s i := if_pos h
theorem fxL_f {s : ByteArray} {a : Int} {i : Nat} (h : ¬ (plc s i : Int) ≤ a) : fxL s a (i + 1) = fxL s a i := if_neg h
theorem fxL_le (s : ByteArray) (a : Int) : ∀ i, fxL s a i ≤ s.size
  | 0 => Nat.zero_le _
  | i + 1 => by unfold fxL; split; exact plc_le s i; exact fxL_le s a i
theorem fxL_eq {s : ByteArray} {a : Int} : ∀ i, i ≤ nR s → fxL s a i = plc s (min i (rnN s (a + 1)) - 1)
  | 0, _ => by rw [Nat.zero_min, plc_zero]; rfl
  | i + 1, h => by
    have h1 := rnN_iff (s := s) (b := a + 1) (j := i) (by omega)
    unfold fxL
    by_cases h2 : i < rnN s (a + 1)
    · have := h1.2 h2
      rw [if_pos (by omega), Nat.min_eq_left (by omega), Nat.add_sub_cancel]
    · rw [if_neg (by omega), fxL_eq i (by omega), Nat.min_eq_right (by omega), Nat.min_eq_right (by omega)]
theorem fxL_fix {s : ByteArray} {a : Int} (h : ¬ (s.size : Int) ≤ a) : fxL s a (nR s) = plc s (fixK s a) := by
  rw [fxL_eq _ (Nat.le_refl _), Nat.min_eq_right (rnN_le _ _)]
  unfold fixK; rw [if_neg h]
theorem fix_size {s : ByteArray} {a : Int} (h : (s.size : Int) ≤ a) : plc s (fixK s a) = s.size := by unfold fixK; rw [if_pos h, plc_end (Nat.le_refl _)]
theorem fxL_fix1 (s : ByteArray) (a : Int) : fxL s a (nR s + 1) = plc s (fixK s a) := by
  unfold fxL
  rw [plc_end (Nat.le_refl _)]
  by_cases h : (s.size : Int) ≤ a
  · rw [if_pos h, fix_size h]
  · rw [if_neg h, fxL_fix h]

set_option maxHeartbeats 1000000 in
theorem fix_any (s : ByteArray) (a : Int) (w : World) (hs : s.size ≤ 1048576) : Calls Tryd.prog 18 #[.string s, .int .i64 a] w fun e w' => e = .returned (.int .i64 (plc s (fixK s a) : Nat)) ∧ Below w.heap.size w w' := by
  by_cases h0 : (s.size : Int) ≤ a
  · have HE := hide (fix_size h0)
    go_enter Tryd.func18, Tryd.ntmps18
    go_wp2
    go_ret
    exact ⟨ret_i (by rw [HE.out]), Below.refl _ _⟩
  have hlen := starts_len s
  have HE := hide (fxL_fix h0)
  go_enter Tryd.func18, Tryd.ntmps18
  go_wp2_with fail
  refine (cstarts_any s _ hs).mono ?_; rintro e w1 ⟨A, c, rfl, hown, hb1⟩
  have HO := hide (NatsAt.of_own hown)
  have HB := hide hb1
  obtain ⟨n, hn⟩ : ∃ n, (starts s).length = n := ⟨_, rfl⟩
  have HN := hide hn
  have HNR := hide (show nR s = n from hn)
  rw [hn] at hlen ⊢
  clear hown hb1 hn
  go_wp2
  go_loop [5, 17] (fun o i => ∃ (k x : Nat), k ≤ n ∧ i = .int .i64 k ∧ o = .int .i64 x ∧ Hid (x = fxL s a k)) (fun _ i => n - (intOf i).toNat)
  case atStart => exact ⟨0, 0, Nat.zero_le _, rfl, rfl, hide rfl⟩
  case round =>
    obtain ⟨k, x, hk, rfl, rfl, HX⟩ := hrel
    by_cases hlt : k < n
    · obtain ⟨g, rfl, hc1⟩ := HO.out k (by rw [HN.out]; exact hlt)
      rw [plc_of_getD (by rw [HNR.out]; exact hlt)] at hc1
      by_cases hpa : (plc s k : Int) ≤ a
      · go_wp2
        go_round
        case rel => exact ⟨k + 1, _, by omega, by go_num, rfl, hide (fxL_t hpa).symm⟩
        case measure => simp [intOf]; omega
      · go_wp2
        go_round
        case rel => exact ⟨k + 1, x, by omega, by go_num, rfl, hide (by rw [fxL_f hpa, HX.out])⟩
        case measure => simp [intOf]; omega
    · obtain rfl : k = n := by omega
      go_wp2
      go_ret
      exact ⟨ret_i (by rw [HX.out, ← HNR.out, HE.out]), HB.out⟩

theorem cellF {s : ByteArray} {w2 : World} {B : Nat} {t : TypeId} {A2 : Option Addr} {c2 k : Nat} (h : w2.ownsRow B t 1 (.slice A2 ((starts s).length + 1) c2) ((starts s).length + 1) (nats (starts s) ++ [Value.int .i64 (s.size : Nat)])) (hk : k ≤ nR s) :
    ∃ g, A2 = some ⟨g, 0, none⟩ ∧ w2.cell? ⟨g, k, none⟩ = some (.int .i64 (plc s k : Nat)) := by
  have e : (starts s).length + 1 = (starts s ++ [s.size]).length := by simp
  rw [← nats_snoc, e] at h
  obtain ⟨g, e2, hc⟩ := NatsAt.of_own h k (by unfold nR at hk; simp; omega)
  refine ⟨g, e2, ?_⟩
  rw [hc]
  unfold nR at hk
  congr 3
  unfold plc
  by_cases h9 : k < (starts s).length
  · rw [List.getElem?_append_left h9, List.getElem?_eq_getElem h9]; rfl
  · rw [List.getElem?_append_right (by omega), show k - (starts s).length = 0 by omega, List.getElem?_eq_none (l := starts s) (by omega)]; rfl
theorem often_nat (n : Int) : ((oftenN n : Nat) : Int) = min (max n 0) 1000 ∧ oftenN n ≤ 1000 := by unfold oftenN; omega
end Go.Proofs.YtmpajkfbiocmiaaDoor
namespace Go.Proofs.YtmpajkfbiocmiaaDoor
open Go.RowKit

/-- A view is laid: from a place on. -/
def layY (C : Nat) (s mo : ByteArray) (Ss : List Sty) (at0 : Nat) : Nat → Nat → List Cl → Nat → List Cl × Nat
  | 0, _, L, cur => (L, cur)
  | f + 1, i, L, cur => if i < s.size then
      layY C s mo Ss at0 f (i + (Utf8.decode s i).2)
        (if ((Utf8.decode s i).1 : Int) = 10 then promY C mo mo.size 0 (lineY C (fitsY C L ((Utf8.decode s i).1 : Int))) else runeY C (fitsY C L ((Utf8.decode s i).1 : Int)) ((Utf8.decode s i).1 : Int) (styAt Ss i))
        (if i = at0 then (fitsY C L ((Utf8.decode s i).1 : Int)).length else cur)
    else (L, cur)
theorem layY_end {C : Nat} {s mo : ByteArray} {Ss : List Sty} {at0 i : Nat} (h : s.size ≤ i) : ∀ f L cur, layY C s mo Ss at0 f i L cur = (L, cur)
  | 0, _, _ => rfl
  | f + 1, L, cur => by unfold layY; rw [if_neg (by omega)]
/-- All of a view: its cells, and which one the cursor is on. -/
def viewY (C : Nat) (s : ByteArray) (Ss : List Sty) (cur : Int) (pr mo : ByteArray) : List Cl × Nat :=
  let at0 := plc s (fixK s cur)
  let x := layY C s mo Ss at0 s.size 0 (promY C pr pr.size 0 []) 0
  (x.1, if at0 = s.size then x.1.length else x.2)
theorem ok_rep {s : ByteArray} {i r n : Nat} (h : Utf8.decode s i = (r, n)) (hok : runeOk s i = false) : r = 65533 := by
  unfold runeOk at hok
  rw [h] at hok
  simp at hok
  exact hok.1
/-- The tables that the layout reads. -/
def EnvL (W : World) : Prop := WTabs W ∧ LBT W ∧ UTabs W
def LowG (p : Nat) : Prop := 1 < p ∧ 2 < p ∧ 3 < p ∧ 4 < p ∧ 5 < p
theorem EnvL.below {w W : World} (h : EnvL w) (hb : Below w.heap.size w W) : EnvL W := ⟨h.1.below hb, h.2.1.below hb, h.2.2.below hb⟩
theorem EnvL.keep {w W : World} {p : Nat} (h : EnvL w) (hb : KeepC p w W) (g : LowG p) : EnvL W :=
  ⟨h.1.keep hb g.2.1 g.2.2.1, h.2.1.keep hb g.1, ⟨fun c hc => hb.low (h.2.2.1 c hc) g.2.2.2.1, fun i hi => ⟨hb.low (h.2.2.2 i hi).1 g.2.2.2.2, hb.low (h.2.2.2 i hi).2 g.2.2.2.2⟩⟩⟩
def StsLow (A : Option Addr) (p : Nat) : Prop := ∀ b o, A = some ⟨b, o, none⟩ → b < p
theorem StsAt.keep {w W : World} {p : Nat} {A : Option Addr} {Ss : List Sty} (h : StsAt w A Ss) (hk : KeepC p w W) (hl : StsLow A p) : StsAt W A Ss := by
  intro j x hx
  obtain ⟨b, o, e, hb, hc⟩ := h j x hx
  exact ⟨b, o, e, Nat.lt_of_lt_of_le hb hk.size, fun i u hu => hk.low (hc i u hu) (hl b o e)⟩
theorem StsAt.below {w W : World} {A : Option Addr} {Ss : List Sty} (h : StsAt w A Ss) (hk : Below w.heap.size w W) : StsAt W A Ss := RowOf.below h hk
def vwL (s : ByteArray) (A : Option Addr) (n cap : Nat) (cur : Int) (pr mo : ByteArray) : List Value := [.string s, .slice A n cap, .int .i64 cur, .string pr, .string mo]
theorem vw_reads {W : World} {z n cap : Nat} {s pr mo : ByteArray} {A : Option Addr} {cur : Int} (h : Blk W z 24 (vwL s A n cap cur pr mo)) :
    W.cell? ⟨z, 0, none⟩ = some (.string s) ∧ W.cell? ⟨z, 1, none⟩ = some (.slice A n cap) ∧ W.cell? ⟨z, 2, none⟩ = some (.int .i64 cur) ∧ W.cell? ⟨z, 3, none⟩ = some (.string pr) ∧ W.cell? ⟨z, 4, none⟩ = some (.string mo) :=
  ⟨h.cell (i := 0) rfl, h.cell (i := 1) rfl, h.cell (i := 2) rfl, h.cell (i := 3) rfl, h.cell (i := 4) rfl⟩
/-- What the loop of lay carries. -/
def LayS (w W : World) (p C z : Nat) (s : ByteArray) (A : Option Addr) (n cap : Nat) (cur : Int) (pr mo : ByteArray) (Ss : List Sty) (M : List Cl) : Prop :=
  Sh W p C M ∧ EnvL W ∧ Blk W z 24 (vwL s A n cap cur pr mo) ∧ StsAt W A Ss ∧ KeepC p w W
section
variable {w W V : World} {p C z n cap : Nat} {s pr mo : ByteArray} {A : Option Addr} {cur : Int} {Ss : List Sty} {M M' : List Cl}
theorem LayS.of (h : LayS w W p C z s A n cap cur pr mo Ss M) (hb : Below W.heap.size W V) : LayS w V p C z s A n cap cur pr mo Ss M :=
  ⟨h.1.of hb, h.2.1.below hb, h.2.2.1.below hb, h.2.2.2.1.below hb, h.2.2.2.2.trans (KeepC.of hb)⟩
theorem LayS.next (h : LayS w W p C z s A n cap cur pr mo Ss M) (hs : Sh V p C M') (hk : KeepC p W V) (g : LowG p) (hz : z ≠ p) (hl : StsLow A p) : LayS w V p C z s A n cap cur pr mo Ss M' :=
  ⟨hs, h.2.1.keep hk g, hk.blk h.2.2.1 hz (by decide), h.2.2.2.1.keep hk hl, h.2.2.2.2.trans hk⟩
end
set_option maxHeartbeats 4000000 in
set_option maxRecDepth 100000 in
theorem lay_any (p C : Nat) (s : ByteArray) (A : Option Addr) (n cap : Nat) (cur : Int) (pr mo : ByteArray) (Ss : List Sty) (w : World) (h : Sh w p C []) (hE : EnvL w) (hA : StsAt w A Ss) (hAl : StsLow A p) (hn : Ss.length = n) (hc : n ≤ cap) (hc2 : cap ≤ maxLen) (g : LowG p) (hC : 2 ≤ C) (hC2 : C ≤ 200)
    (hs : s.size ≤ 700) (hpr : pr.size ≤ 100) (hmo : mo.size ≤ 100) :
    Calls Tryd.prog 11 #[.pointer (some ⟨p, 0, none⟩), .agg #[.string s, .slice A n cap, .int .i64 cur, .string pr, .string mo]] w fun e w' => e = .returned (.int .i64 ((viewY C s Ss cur pr mo).2 : Nat)) ∧ Sh w' p C (viewY C s Ss cur pr mo).1 ∧ KeepC p w w' := by
  have hpw := h.lt
  have hb0 : Below w.heap.size w (w.alloc (.cells (vwL s A n cap cur pr mo).toArray 24)) := (Below.refl _ _).alloc (Nat.le_refl _) _
  have HS0 := hide (show LayS w (w.alloc (.cells (vwL s A n cap cur pr mo).toArray 24)) p C w.heap.size s A n cap cur pr mo Ss [] from ⟨h.of hb0, hE.below hb0, Blk.new _ _ _, hA.below hb0, KeepC.of hb0⟩)
  have HG := hide g
  have HAL := hide hAl
  have HN := hide hn
  unfold maxLen at hc2
  clear h hE hA hAl hn hb0
  go_enter Tryd.func11, Tryd.ntmps11
  go_wp2_with fail
  obtain ⟨z, hz⟩ : ∃ z, w.heap.size = z := ⟨_, rfl⟩
  obtain ⟨W1, hW1⟩ : ∃ W, w.alloc (.cells #[.string s, .slice A n cap, .int .i64 cur, .string pr, .string mo] 24) = W := ⟨_, rfl⟩
  have hpz : z ≠ p := by omega
  rw [hz] at HS0
  rw [show w.alloc (.cells (vwL s A n cap cur pr mo).toArray 24) = W1 from hW1] at HS0
  first | rw [hz, hW1] | rw [hW1]
  clear hW1 hz hpw
  refine (fix_any s cur _ (by omega)).mono ?_; rintro e w1 ⟨rfl, hb1⟩
  have HS1 := hide (HS0.out.of hb1)
  obtain ⟨at0, hat⟩ : ∃ a, plc s (fixK s cur) = a := ⟨_, rfl⟩
  have HV := hide (show viewY C s Ss cur pr mo = ((layY C s mo Ss at0 s.size 0 (promY C pr pr.size 0 []) 0).1, if at0 = s.size then (layY C s mo Ss at0 s.size 0 (promY C pr pr.size 0 []) 0).1.length else (layY C s mo Ss at0 s.size 0 (promY C pr pr.size 0 []) 0).2) by unfold viewY; rw [hat])
  rw [hat]
  clear hb1 HS0 hat
  obtain ⟨v0, v1, v2, v3, v4⟩ := vw_reads HS1.out.2.2.1
  go_wp2_with fail
  refine (prompt_any p C [] pr _ HS1.out.1 HS1.out.2.1.1 HS1.out.2.1.2.1 hC (by omega) (by omega) (by simp; omega) HG.out.1 HG.out.2.1 HG.out.2.2.1).mono ?_; rintro e w2 ⟨rfl, hs2, hk2⟩
  have HS2 := hide (HS1.out.next hs2 hk2 HG.out hpz HAL.out)
  have HPL := hide (promY_len C pr pr.size 0 [])
  obtain ⟨M0, hM0⟩ : ∃ M, promY C pr pr.size 0 [] = M := ⟨_, rfl⟩
  rw [hM0] at HS2 HPL HV
  have hM1 : M0.length ≤ 800 := by have := HPL.out; simp at this; omega
  obtain ⟨X, hX⟩ : ∃ X, layY C s mo Ss at0 s.size 0 M0 0 = X := ⟨_, rfl⟩
  have HXX := hide hX
  rw [hX] at HV
  clear hs2 hk2 HS1 v0 v1 v2 v3 v4 hM0 hX HPL
  go_wp2_with fail
  go_loopw [4, 6] (fun cv iv wr => ∃ (i f cu : Nat) (M : List Cl), cv = .int .i64 cu ∧ iv = .int .i64 i ∧ Hid (layY C s mo Ss at0 f i M cu = X) ∧ s.size ≤ i + f ∧ i ≤ s.size ∧ M.length ≤ 800 + 1010 * i ∧ Hid (LayS w wr p C z s A n cap cur pr mo Ss M)) (fun _ iv _ => s.size - (intOf iv).toNat)
  case atStart => exact ⟨0, s.size, 0, M0, rfl, rfl, HXX, by omega, by omega, by omega, HS2⟩
  case round =>
    clear HS2 HXX hM1
    obtain ⟨i, f, cu, M, rfl, rfl, HL, hf, hi, hM, HS⟩ := hrel
    by_cases hlt : i < s.size
    · have hd := dec_in s i hlt
      obtain ⟨f, rfl⟩ : ∃ q, f = q + 1 := ⟨f - 1, by omega⟩
      obtain ⟨r, m, hrn⟩ : ∃ r m, Utf8.decode s i = (r, m) := ⟨_, _, rfl⟩
      have HST := hide (show layY C s mo Ss at0 f (i + m) (if (r : Int) = 10 then promY C mo mo.size 0 (lineY C (fitsY C M (r : Int))) else runeY C (fitsY C M (r : Int)) (r : Int) (styAt Ss i)) (if i = at0 then (fitsY C M (r : Int)).length else cu) = X by
        have := HL.out
        rw [layY, if_pos hlt, hrn] at this
        exact this)
      have HNX := hide (fun W hT => next_any s i W (by omega) hlt hT)
      have HRN := hide hrn
      have HNX := HNX.out
      rw [hrn] at HNX hd
      have HNX := hide HNX
      dsimp only at hd
      clear HL hrn
      obtain ⟨v0, v1, v2, v3, v4⟩ := vw_reads HS.out.2.2.1
      have hi0 : (0 : Int) ≤ (i : Int) := by omega
      have hi1 : (i : Int) < (s.size : Int) := by omega
      go_wp2_with fail
      refine (HNX.out _ HS.out.2.1.2.2).mono ?_; rintro e w3 ⟨rfl, hb3⟩
      have HS3 := hide (HS.out.of hb3)
      clear hb3 HS HNX v0 v1 v2 v3 v4
      obtain ⟨ok, hok⟩ : ∃ b, runeOk s i = b := ⟨_, rfl⟩
      rw [hok]
      have HO := hide (fun (h : ok = false) => ok_rep HRN.out (by rw [hok]; exact h))
      clear hok HRN
      cases ok
      · obtain rfl : r = 65533 := HO.out rfl
        as_aux_lemma =>
          rw [show ((65533 : Nat) : Int) = 65533 from rfl] at HST
          obtain ⟨v0, v1, v2, v3, v4⟩ := vw_reads HS3.out.2.2.1
          go_wp2_with fail
          refine (fits_any p C M _ _ HS3.out.1 HS3.out.2.1.1 HS3.out.2.1.2.1 hC (by omega) (by omega)).mono ?_; rintro e w4 ⟨rfl, hs4, hk4⟩
          have HS4 := hide (HS3.out.next hs4 hk4 HG.out hpz HAL.out)
          have hfl := fitsY_len C M (65533 : Int)
          obtain ⟨M1, hM1⟩ : ∃ L, fitsY C M (65533 : Int) = L := ⟨_, rfl⟩
          rw [hM1] at HS4 HST hfl
          clear hs4 hk4 HS3 v0 v1 v2 v3 v4 hM1
          by_cases hia : i = at0
          · rw [if_pos hia] at HST
            have qi : ((i : Int) == (at0 : Int)) = true := by simp; omega
            obtain ⟨A1, m1, c1, hm1, hmc1, hcm1, r0, r1, rf1, hbk1, -⟩ := HS4.out.1.reads
            rw [← hm1] at HST
            have hm1b : m1 ≤ 1000000 := by omega
            obtain ⟨v0, v1, v2, v3, v4⟩ := vw_reads HS4.out.2.2.1
            have HM1 := hide hm1
            clear hia hm1
            have h10 : ¬ ((65533 : Int) = 10) := by decide
            rw [if_neg h10] at HST
            have q10 : (((65533 : Int) : Int) == 10) = false := by decide
            have hrl := runeY_len C M1 (65533 : Int) (styAt Ss i)
            obtain ⟨⟨fg, bo, un, iv⟩, hst⟩ : ∃ x, styAt Ss i = x := ⟨_, rfl⟩
            rw [hst] at HST hrl
            have HSY := hide (fun W h => vstyle_any s A n cap cur pr mo Ss i W h HN.out hc hc2 (by omega))
            have HSY := HSY.out
            rw [hst] at HSY
            have HSY := hide HSY
            clear h10 hst
            go_wp2_with fail
            refine (HSY.out _ HS4.out.2.2.2.1).mono ?_; rintro e w5 ⟨rfl, hb5⟩
            have HS5 := hide (HS4.out.of hb5)
            clear hb5 HS4 HSY v0 v1 v2 v3 v4
            go_wp2_with fail
            refine (rune_any p C M1 (65533 : Int) fg bo un iv _ HS5.out.1 HS5.out.2.1.1 HS5.out.2.1.2.1 hC (by omega) (by omega) HG.out.1 HG.out.2.1 HG.out.2.2.1).mono ?_; rintro e w6 ⟨rfl, hs6, hk6⟩
            have HS6 := hide (HS5.out.next hs6 hk6 HG.out hpz HAL.out)
            clear hs6 hk6 HS5
            go_wp2_with fail
            go_roundw
            case rel => exact ⟨i + m, f, m1, _, rfl, by go_num, HST, by omega, by omega, by omega, HS6⟩
            case measure => simp [intOf]; omega
          · rw [if_neg hia] at HST
            have qi : ((i : Int) == (at0 : Int)) = false := by simp; omega
            obtain ⟨v0, v1, v2, v3, v4⟩ := vw_reads HS4.out.2.2.1
            clear hia
            have h10 : ¬ ((65533 : Int) = 10) := by decide
            rw [if_neg h10] at HST
            have q10 : (((65533 : Int) : Int) == 10) = false := by decide
            have hrl := runeY_len C M1 (65533 : Int) (styAt Ss i)
            obtain ⟨⟨fg, bo, un, iv⟩, hst⟩ : ∃ x, styAt Ss i = x := ⟨_, rfl⟩
            rw [hst] at HST hrl
            have HSY := hide (fun W h => vstyle_any s A n cap cur pr mo Ss i W h HN.out hc hc2 (by omega))
            have HSY := HSY.out
            rw [hst] at HSY
            have HSY := hide HSY
            clear h10 hst
            go_wp2_with fail
            refine (HSY.out _ HS4.out.2.2.2.1).mono ?_; rintro e w5 ⟨rfl, hb5⟩
            have HS5 := hide (HS4.out.of hb5)
            clear hb5 HS4 HSY v0 v1 v2 v3 v4
            go_wp2_with fail
            refine (rune_any p C M1 (65533 : Int) fg bo un iv _ HS5.out.1 HS5.out.2.1.1 HS5.out.2.1.2.1 hC (by omega) (by omega) HG.out.1 HG.out.2.1 HG.out.2.2.1).mono ?_; rintro e w6 ⟨rfl, hs6, hk6⟩
            have HS6 := hide (HS5.out.next hs6 hk6 HG.out hpz HAL.out)
            clear hs6 hk6 HS5
            go_wp2_with fail
            go_roundw
            case rel => exact ⟨i + m, f, cu, _, rfl, by go_num, HST, by omega, by omega, by omega, HS6⟩
            case measure => simp [intOf]; omega
      · as_aux_lemma =>
          obtain ⟨v0, v1, v2, v3, v4⟩ := vw_reads HS3.out.2.2.1
          go_wp2_with fail
          refine (fits_any p C M _ _ HS3.out.1 HS3.out.2.1.1 HS3.out.2.1.2.1 hC (by omega) (by omega)).mono ?_; rintro e w4 ⟨rfl, hs4, hk4⟩
          have HS4 := hide (HS3.out.next hs4 hk4 HG.out hpz HAL.out)
          have hfl := fitsY_len C M (r : Int)
          obtain ⟨M1, hM1⟩ : ∃ L, fitsY C M (r : Int) = L := ⟨_, rfl⟩
          rw [hM1] at HS4 HST hfl
          clear hs4 hk4 HS3 v0 v1 v2 v3 v4 hM1
          by_cases hia : i = at0
          · rw [if_pos hia] at HST
            have qi : ((i : Int) == (at0 : Int)) = true := by simp; omega
            obtain ⟨A1, m1, c1, hm1, hmc1, hcm1, r0, r1, rf1, hbk1, -⟩ := HS4.out.1.reads
            rw [← hm1] at HST
            have hm1b : m1 ≤ 1000000 := by omega
            obtain ⟨v0, v1, v2, v3, v4⟩ := vw_reads HS4.out.2.2.1
            have HM1 := hide hm1
            clear hia hm1
            by_cases h10 : ((r : Nat) : Int) = 10
            · rw [if_pos h10] at HST
              obtain rfl : r = 10 := by omega
              have hpl := promY_len C mo mo.size 0 (lineY C M1)
              have hll := lineY_len C M1
              go_wp2_with fail
              refine (line_any p C M1 _ HS4.out.1 HS4.out.2.1.1 HS4.out.2.1.2.1 hC (by omega) (by omega) HG.out.1).mono ?_; rintro e w5 ⟨rfl, hs5, hk5⟩
              have HS5 := hide (HS4.out.next hs5 hk5 HG.out hpz HAL.out)
              clear hs5 hk5 HS4 v0 v1 v2 v3 v4
              obtain ⟨v0, v1, v2, v3, v4⟩ := vw_reads HS5.out.2.2.1
              go_wp2_with fail
              refine (prompt_any p C _ mo _ HS5.out.1 HS5.out.2.1.1 HS5.out.2.1.2.1 hC (by omega) (by omega) (by omega) HG.out.1 HG.out.2.1 HG.out.2.2.1).mono ?_; rintro e w6 ⟨rfl, hs6, hk6⟩
              have HS6 := hide (HS5.out.next hs6 hk6 HG.out hpz HAL.out)
              clear hs6 hk6 HS5 v0 v1 v2 v3 v4
              go_wp2_with fail
              go_roundw
              case rel => exact ⟨i + m, f, m1, _, rfl, by go_num, HST, by omega, by omega, by omega, HS6⟩
              case measure => simp [intOf]; omega
            · rw [if_neg h10] at HST
              have q10 : (((r : Int) : Int) == 10) = false := by simpa using h10
              have hrl := runeY_len C M1 (r : Int) (styAt Ss i)
              obtain ⟨⟨fg, bo, un, iv⟩, hst⟩ : ∃ x, styAt Ss i = x := ⟨_, rfl⟩
              rw [hst] at HST hrl
              have HSY := hide (fun W h => vstyle_any s A n cap cur pr mo Ss i W h HN.out hc hc2 (by omega))
              have HSY := HSY.out
              rw [hst] at HSY
              have HSY := hide HSY
              clear h10 hst
              go_wp2_with fail
              refine (HSY.out _ HS4.out.2.2.2.1).mono ?_; rintro e w5 ⟨rfl, hb5⟩
              have HS5 := hide (HS4.out.of hb5)
              clear hb5 HS4 HSY v0 v1 v2 v3 v4
              go_wp2_with fail
              refine (rune_any p C M1 (r : Int) fg bo un iv _ HS5.out.1 HS5.out.2.1.1 HS5.out.2.1.2.1 hC (by omega) (by omega) HG.out.1 HG.out.2.1 HG.out.2.2.1).mono ?_; rintro e w6 ⟨rfl, hs6, hk6⟩
              have HS6 := hide (HS5.out.next hs6 hk6 HG.out hpz HAL.out)
              clear hs6 hk6 HS5
              go_wp2_with fail
              go_roundw
              case rel => exact ⟨i + m, f, m1, _, rfl, by go_num, HST, by omega, by omega, by omega, HS6⟩
              case measure => simp [intOf]; omega
          · rw [if_neg hia] at HST
            have qi : ((i : Int) == (at0 : Int)) = false := by simp; omega
            obtain ⟨v0, v1, v2, v3, v4⟩ := vw_reads HS4.out.2.2.1
            clear hia
            by_cases h10 : ((r : Nat) : Int) = 10
            · rw [if_pos h10] at HST
              obtain rfl : r = 10 := by omega
              have hpl := promY_len C mo mo.size 0 (lineY C M1)
              have hll := lineY_len C M1
              go_wp2_with fail
              refine (line_any p C M1 _ HS4.out.1 HS4.out.2.1.1 HS4.out.2.1.2.1 hC (by omega) (by omega) HG.out.1).mono ?_; rintro e w5 ⟨rfl, hs5, hk5⟩
              have HS5 := hide (HS4.out.next hs5 hk5 HG.out hpz HAL.out)
              clear hs5 hk5 HS4 v0 v1 v2 v3 v4
              obtain ⟨v0, v1, v2, v3, v4⟩ := vw_reads HS5.out.2.2.1
              go_wp2_with fail
              refine (prompt_any p C _ mo _ HS5.out.1 HS5.out.2.1.1 HS5.out.2.1.2.1 hC (by omega) (by omega) (by omega) HG.out.1 HG.out.2.1 HG.out.2.2.1).mono ?_; rintro e w6 ⟨rfl, hs6, hk6⟩
              have HS6 := hide (HS5.out.next hs6 hk6 HG.out hpz HAL.out)
              clear hs6 hk6 HS5 v0 v1 v2 v3 v4
              go_wp2_with fail
              go_roundw
              case rel => exact ⟨i + m, f, cu, _, rfl, by go_num, HST, by omega, by omega, by omega, HS6⟩
              case measure => simp [intOf]; omega
            · rw [if_neg h10] at HST
              have q10 : (((r : Int) : Int) == 10) = false := by simpa using h10
              have hrl := runeY_len C M1 (r : Int) (styAt Ss i)
              obtain ⟨⟨fg, bo, un, iv⟩, hst⟩ : ∃ x, styAt Ss i = x := ⟨_, rfl⟩
              rw [hst] at HST hrl
              have HSY := hide (fun W h => vstyle_any s A n cap cur pr mo Ss i W h HN.out hc hc2 (by omega))
              have HSY := HSY.out
              rw [hst] at HSY
              have HSY := hide HSY
              clear h10 hst
              go_wp2_with fail
              refine (HSY.out _ HS4.out.2.2.2.1).mono ?_; rintro e w5 ⟨rfl, hb5⟩
              have HS5 := hide (HS4.out.of hb5)
              clear hb5 HS4 HSY v0 v1 v2 v3 v4
              go_wp2_with fail
              refine (rune_any p C M1 (r : Int) fg bo un iv _ HS5.out.1 HS5.out.2.1.1 HS5.out.2.1.2.1 hC (by omega) (by omega) HG.out.1 HG.out.2.1 HG.out.2.2.1).mono ?_; rintro e w6 ⟨rfl, hs6, hk6⟩
              have HS6 := hide (HS5.out.next hs6 hk6 HG.out hpz HAL.out)
              clear hs6 hk6 HS5
              go_wp2_with fail
              go_roundw
              case rel => exact ⟨i + m, f, cu, _, rfl, by go_num, HST, by omega, by omega, by omega, HS6⟩
              case measure => simp [intOf]; omega
    · obtain rfl : i = s.size := by omega
      have HL2 := hide HL.out
      have HE := hide (show (M, cu) = X by rw [← HL.out, layY_end (Nat.le_refl _)])
      obtain ⟨A1, m1, c1, hm1, hmc1, hcm1, r0, r1, rf1, hbk1, -⟩ := HS.out.1.reads
      obtain ⟨v0, v1, v2, v3, v4⟩ := vw_reads HS.out.2.2.1
      have hm1b : m1 ≤ 1000000 := by omega
      have HM1 := hide hm1
      clear hm1 HL HL2
      by_cases hat : at0 = s.size
      · subst hat
        go_wp2
        go_ret
        exact ⟨ret_cells (by rw [HV.out, ← HE.out, HM1.out]; simp), by rw [HV.out, ← HE.out]; exact HS.out.1, HS.out.2.2.2.2⟩
      · have qa : ((at0 : Int) == (s.size : Int)) = false := by simp; omega
        have HA0 := hide hat
        clear hat
        go_wp2
        go_ret
        exact ⟨ret_cells (by rw [HV.out, ← HE.out, if_neg HA0.out]), by rw [HV.out, ← HE.out]; exact HS.out.1, HS.out.2.2.2.2⟩
end Go.Proofs.YtmpajkfbiocmiaaDoor
namespace Go.Proofs.YtmpajkfbiocmiaaDoor
open Go.ChangeShapes Go.WideShapes Go.ChangeAt Go.RowKit Go.Lib

/-- The rows' list of variables. -/
def laidList : List (String × DataW Unit) := [("unicode/utf8.acceptRanges", Rows.laid_unicode_utf8_acceptRanges), ("limner/widths.hidden", Rows.laid_limner_widths_hidden), ("limner/widths.wide", Rows.laid_limner_widths_wide), ("limner/grids.blank", Rows.laid_limner_grids_blank), ("limner/layout.blank", Rows.laid_limner_layout_blank), ("unicode/utf8.first", Rows.laid_unicode_utf8_first)]

theorem cellsYI : Tryd.prog.cellsOf 3 = 1 := by kernel_rfl
theorem cellsYR : Tryd.prog.cellsOf 21 = 1 := by kernel_rfl
theorem cellsYB : Tryd.prog.cellsOf 4 = 1 := by kernel_rfl
theorem cellsYT : Tryd.prog.cellsOf 9 = 1 := by kernel_rfl
theorem cellsYS : Tryd.prog.cellsOf 28 = 4 := by kernel_rfl
theorem cellsYC : Tryd.prog.cellsOf 39 = 6 := by kernel_rfl
theorem cellsYV : Tryd.prog.cellsOf 24 = 5 := by kernel_rfl
theorem cellsYL : Tryd.prog.cellsOf 22 = 1 := by kernel_rfl
theorem cellsRun : Tryd.prog.cellsOf 84 = 2 := by kernel_rfl
theorem cellsI32 : Tryd.prog.cellsOf 21 = 1 := by kernel_rfl
/-- A listed array of runs. -/
theorem runs_of_reads {W : World} {name : String} {g t n : Nat} {l : List (Int × Int)} (hn : Tryd.prog.globalNamed name = some g) (hy : (Tryd.prog.globals[g]?).map (·.type) = some t) (ht : Tryd.prog.underlying t = some (.array n 84)) (hln : l.length = n)
    (h : VarReads Tryd.prog W name (.agg (l.map fun p => .agg [.lit (.int .i32 p.1), .lit (.int .i32 p.2)]))) : RunsAt g l W := by
  obtain ⟨g', t', cs, fuel, p, hg, hty, hvar, hd⟩ := h
  obtain rfl := Option.some.inj (hn.symm.trans hg)
  obtain rfl := Option.some.inj (hy.symm.trans hty)
  intro j hj
  obtain ⟨fuel', d, q, hdi, he⟩ := array_elem ht hd j (by omega)
  simp only [List.getElem?_map, List.getElem?_eq_getElem hj, Option.map_some, Option.some.injEq] at hdi
  subst hdi
  rw [cellsRun] at he
  have hcs := ints_of_struct (k := .i32) (zs := [l[j].1, l[j].2]) Tryd.underlying84 (fun i f hf => by
    match i, hf with
    | 0, hf => simp at hf; subst hf; exact ⟨Tryd.underlying21, rfl, cellsI32⟩
    | 1, hf => simp at hf; subst hf; exact ⟨Tryd.underlying21, rfl, cellsI32⟩
    | i + 2, hf => simp at hf) (by rw [cellsRun]; rfl) he
  have e0 := congrArg (·[0]?) hcs
  have e1 := congrArg (·[1]?) hcs
  simp only [List.getElem?_take, List.getElem?_drop] at e0 e1
  rw [World.var?_cell hg hvar (j * 2), World.var?_cell hg hvar (j * 2 + 1), ← Array.getElem?_toList, ← Array.getElem?_toList]
  simp only [List.getElem?_eq_getElem hj, Option.getD_some]
  constructor
  · simpa using e0
  · simpa using e1

theorem hidType : (Tryd.prog.globals[2]?).map (·.type) = some 85 := by kernel_rfl
theorem widType : (Tryd.prog.globals[3]?).map (·.type) = some 86 := by kernel_rfl
theorem hidName : Tryd.prog.globalNamed "limner/widths.hidden" = some 2 := by kernel_rfl
theorem widName : Tryd.prog.globalNamed "limner/widths.wide" = some 3 := by kernel_rfl
theorem blkTypeG : (Tryd.prog.globals[0]?).map (·.type) = some 39 := by kernel_rfl
theorem blkNameG : Tryd.prog.globalNamed "limner/grids.blank" = some 0 := by kernel_rfl
theorem blkTypeL : (Tryd.prog.globals[1]?).map (·.type) = some 39 := by kernel_rfl
theorem blkNameL : Tryd.prog.globalNamed "limner/layout.blank" = some 1 := by kernel_rfl
/-- The blank, as it is listed. -/
theorem blank_reads {W : World} {name : String} {gn : Nat} (blkName : Tryd.prog.globalNamed name = some gn) (blkType : (Tryd.prog.globals[gn]?).map (·.type) = some 39) (h : VarReads Tryd.prog W name (.agg [.lit (.int .i32 32), .lit (.int .i64 1), .agg [.lit (.int .i64 0), .lit (.bool false), .lit (.bool false), .lit (.bool false)]])) : ∀ i u, (clCells blankC)[i]? = some u → W.cell? ⟨gn, i, none⟩ = some u := by
  obtain ⟨g', t', cs, fuel, p, hg, hty, hvar, hd⟩ := h
  obtain rfl := Option.some.inj (blkName.symm.trans hg)
  obtain rfl := Option.some.inj (blkType.symm.trans hty)
  obtain ⟨l⟩ := cs
  obtain ⟨xs, n, -, hx, hl, hlen, hi⟩ := DataW.trod_struct Tryd.underlying39 hd
  rw [cellsYC] at hl
  match l, hl with
  | [c0, c1, c2, c3, c4, c5], _ =>
    match xs, hlen with
    | [y0, y1, y2], _ =>
      simp only [Prod.mk.injEq, List.map_cons, List.map_nil, DataW.agg.injEq, List.cons.injEq, and_true] at hx
      obtain ⟨⟨d0, d1, d2⟩, -⟩ := hx
      have h0 := hi 0 _ rfl
      have h1 := hi 1 _ rfl
      have h2 := hi 2 _ rfl
      simp [cellsYR, cellsYI, cellsYS] at h0 h1 h2
      obtain ⟨a, e0, f0, _⟩ := DataW.trod_int Tryd.underlying21 h0
      obtain ⟨b, e1, f1, _⟩ := DataW.trod_int Tryd.underlying3 h1
      obtain ⟨zs, n, -, hz, -, hzl, hj⟩ := DataW.trod_struct Tryd.underlying28 h2
      match zs, hzl with
      | [z0, z1, z2, z3], _ =>
        have j0 := hj 0 _ rfl
        have j1 := hj 1 _ rfl
        have j2 := hj 2 _ rfl
        have j3 := hj 3 _ rfl
        simp [cellsYI, cellsYB] at j0 j1 j2 j3
        obtain ⟨a0, k0, g0, _⟩ := DataW.trod_int Tryd.underlying3 j0
        obtain ⟨a1, k1, g1⟩ := DataW.trod_bool Tryd.underlying4 j1
        obtain ⟨a2, k2, g2⟩ := DataW.trod_bool Tryd.underlying4 j2
        obtain ⟨a3, k3, g3⟩ := DataW.trod_bool Tryd.underlying4 j3
        subst f0 f1 hz g0 g1 g2 g3
        simp at d0 d1 d2 e0 e1 k0 k1 k2 k3
        obtain ⟨rfl, rfl, rfl, rfl⟩ := d2
        subst d0 d1 e0 e1 k0 k1 k2 k3
        have hc := fun k => World.var?_cell hg hvar k
        intro i u hu
        have hi6 : i < 6 := by have := (List.getElem?_eq_some_iff.1 hu).1; simpa [clCells] using this
        rw [hc]
        have : i = 0 ∨ i = 1 ∨ i = 2 ∨ i = 3 ∨ i = 4 ∨ i = 5 := by omega
        rcases this with rfl | rfl | rfl | rfl | rfl | rfl <;> exact hu
theorem u8Extra : Go.Proofs.U8Extra Tryd.prog Tryd.lays260_ren := ⟨by kernel_rfl, by kernel_rfl, by kernel_rfl, by kernel_rfl, by kernel_rfl, by kernel_rfl, by kernel_rfl⟩
theorem acceptEq : (Rows.laid_unicode_utf8_acceptRanges : DataW Unit) = acceptData := by kernel_rfl
/-- What the rows' list gives. -/
theorem tabs_of_laid {W : World} (h : laidMetH Tryd.prog laidList W) : EnvL W ∧ BTab W ∧ LowG W.heap.size := by
  rw [MakeChecks.laidMetH_plain _ _ _ (by kernel_rfl)] at h
  have r1 := laidMet.reads h (n := "limner/widths.hidden") (d := Rows.laid_limner_widths_hidden) (by simp [laidList])
  have r2 := laidMet.reads h (n := "limner/widths.wide") (d := Rows.laid_limner_widths_wide) (by simp [laidList])
  have r3 := laidMet.reads h (n := "limner/grids.blank") (d := Rows.laid_limner_grids_blank) (by simp [laidList])
  have r5 := laidMet.reads h (n := "limner/layout.blank") (d := Rows.laid_limner_layout_blank) (by simp [laidList])
  have r6 := laidMet.reads h (n := "unicode/utf8.first") (d := Rows.laid_unicode_utf8_first) (by simp [laidList])
  have r7 := laidMet.reads h (n := "unicode/utf8.acceptRanges") (d := Rows.laid_unicode_utf8_acceptRanges) (by simp [laidList])
  rw [show (Rows.laid_unicode_utf8_first : DataW Unit) = firstData from Pinned.utf8First_eq] at r6
  rw [acceptEq] at r7
  have hb := blank_reads blkNameG blkTypeG r3
  have hl : LBT W := blank_reads blkNameL blkTypeL r5
  have hw : WTabs W := ⟨runs_of_reads (l := hid) hidName hidType Tryd.underlying85 rfl r1, runs_of_reads (l := wid) widName widType Tryd.underlying86 rfl r2⟩
  have hu : UTabs W := Go.Proofs.utf8Tabs_of_reads Tryd.lays260 u8Extra r6 r7
  exact ⟨⟨hw, hl, hu⟩, ⟨hb 0 _ rfl, hb 1 _ rfl, hb 2 _ rfl, hb 3 _ rfl, hb 4 _ rfl, hb 5 _ rfl⟩, World.block_lt_of_cell? _ _ (hl 0 _ rfl), hw.lt.1, hw.lt.2, World.block_lt_of_cell? _ _ (hu.1 0 (by omega)), World.block_lt_of_cell? _ _ (hu.2 0 (by omega)).1⟩
section
variable {H : Type} {enc : TypeId × Value → H}
theorem ysty_of {w : World} {n : Nat} {cs : List Value} {x : DataW H × List MemPlace} (hl : cs.length = 4) (hf : DataW.trod enc Tryd.prog w 0 (fun _ => true) true n 28 cs = some x) :
    ∃ y : Sty, cs = styL y ∧ True := by
  match cs, hl with
  | [c0, c1, c2, c3], _ =>
    obtain ⟨xs, n, _, _, _, hlen, hi⟩ := DataW.trod_struct Tryd.underlying28 hf
    match xs, hlen with
    | [y0, y1, y2, y3], _ =>
      have h0 := hi 0 _ rfl
      have h1 := hi 1 _ rfl
      have h2 := hi 2 _ rfl
      have h3 := hi 3 _ rfl
      simp [cellsYI, cellsYB] at h0 h1 h2 h3
      obtain ⟨a, e0, _, _⟩ := DataW.trod_int Tryd.underlying3 h0
      obtain ⟨b, e1, _⟩ := DataW.trod_bool Tryd.underlying4 h1
      obtain ⟨c, e2, _⟩ := DataW.trod_bool Tryd.underlying4 h2
      obtain ⟨d, e3, _⟩ := DataW.trod_bool Tryd.underlying4 h3
      simp only [List.cons.injEq, and_true] at e0 e1 e2 e3
      exact ⟨(a, b, c, d), by simp [styL, e0, e1, e2, e3], trivial⟩
theorem open_view {w : World} {v : Value} {d : DataW H} {p : List MemPlace} {b0 : Nat} (hv : Value.okWide Tryd.prog w .any b0 24 v) (h : DataW.Trod enc Tryd.prog w 0 (fun _ => true) true 24 v d p) :
    ∃ (s : ByteArray) (A : Option Addr) (n cap : Nat) (cur : Int) (pr mo : ByteArray) (Ss : List Sty), v = .agg #[.string s, .slice A n cap, .int .i64 cur, .string pr, .string mo] ∧ StsAt w A Ss ∧ Ss.length = n ∧ n ≤ cap ∧ cap ≤ maxLen ∧ s.size ≤ maxLen ∧ pr.size ≤ maxLen ∧ mo.size ≤ maxLen := by
  obtain ⟨cs, rfl, hsz⟩ := okWide_structP Tryd.underlying24 hv
  rw [cellsYV] at hsz
  obtain ⟨fuel, hf⟩ := h
  obtain ⟨l⟩ := cs
  match l, hsz with
  | [c0, c1, c2, c3, c4], _ =>
    obtain ⟨xs, n, _, _, _, hlen, hi⟩ := DataW.trod_struct Tryd.underlying24 hf
    match xs, hlen with
    | [y0, y1, y2, y3, y4], _ =>
      have h0 := hi 0 _ rfl
      have h1 := hi 1 _ rfl
      have h2 := hi 2 _ rfl
      have h3 := hi 3 _ rfl
      have h4 := hi 4 _ rfl
      simp [Value.cells, cellsYI, cellsYL, cellsYT] at h0 h1 h2 h3 h4
      obtain ⟨s, e0, _, m0⟩ := DataW.trod_string Tryd.underlying9 h0
      obtain ⟨A, cap, l, e1, g1, g2, -, -, g5⟩ := rows_of_cells (P := Tryd.prog) (α := Sty) 4 (by omega) styL (fun _ => True) Tryd.underlying22 cellsYS (fun n cs x hl hf => ysty_of hl hf) h1
      obtain ⟨c, e2, _, _⟩ := DataW.trod_int Tryd.underlying3 h2
      obtain ⟨pr, e3, _, m3⟩ := DataW.trod_string Tryd.underlying9 h3
      obtain ⟨mo, e4, _, m4⟩ := DataW.trod_string Tryd.underlying9 h4
      simp only [List.cons.injEq, and_true] at e0 e1 e2 e3 e4
      exact ⟨s, A, l.length, cap, c, pr, mo, l, by rw [e0, e1, e2, e3, e4], g5, rfl, g1, g2, m0, m3, m4⟩
end
end Go.Proofs.YtmpajkfbiocmiaaDoor
