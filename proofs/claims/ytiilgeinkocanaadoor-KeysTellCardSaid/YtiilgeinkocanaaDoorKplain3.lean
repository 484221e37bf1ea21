/- Plain: a paste, up to its first end. No program in sight. -/
import Derived.Test.YtiilgeinkocanaaDoorKplain2
namespace Go.Proofs.YtiilgeinkocanaaDoor

/-- Does a paste end at this place of a text? -/
def endAt (t : ByteArray) (j : Nat) : Bool := decide (j + 6 ≤ t.size ∧ t.extract j (j + 6) = endS)
theorem ext_ext (t : ByteArray) (k j : Nat) (h : j ≤ k) : (t.extract 0 k).extract j k = t.extract j k := by
  apply ByteArray.ext
  simp only [ByteArray.data_extract]
  apply Array.ext'
  simp only [Array.toList_extract, List.extract_eq_take_drop, List.drop_zero, Nat.sub_zero]
  rw [List.drop_take, List.take_take]
  simp
theorem ext_ext0 (t : ByteArray) (k j : Nat) (h : j ≤ k) : (t.extract 0 k).extract 0 j = t.extract 0 j := by
  apply ByteArray.ext
  simp only [ByteArray.data_extract]
  apply Array.ext'
  simp only [Array.toList_extract, List.extract_eq_take_drop, List.drop_zero, Nat.sub_zero]
  rw [List.take_take, Nat.min_eq_left h]
/-- One byte more of a paste. -/
theorem paste_step {t : ByteArray} {k : Nat} (hk : k < t.size) : pasteK (t.extract 0 k) ((t.get! k).toNat : Int) = if 5 ≤ k ∧ endAt t (k - 5) = true then (startK, [⟨15, 0, cleanK (t.extract 0 (k - 5))⟩]) else ((true, t.extract 0 (k + 1)), []) := by
  have hz : (t.extract 0 (k + 1)).size = k + 1 := by simp; omega
  unfold pasteK
  rw [ext_push hk, hz]
  by_cases h5 : 5 ≤ k
  · have e : k + 1 - 6 = k - 5 := by omega
    rw [e, ext_ext _ _ _ (by omega), ext_ext0 _ _ _ (by omega)]
    have e2 : endAt t (k - 5) = decide (t.extract (k - 5) (k + 1) = endS) := by
      unfold endAt
      rw [show k - 5 + 6 = k + 1 by omega, Bool.eq_iff_iff]
      simp
      omega
    rw [e2]
    simp only [decide_eq_true_eq]
    by_cases h6 : t.extract (k - 5) (k + 1) = endS
    · rw [if_pos ⟨by omega, h6⟩, if_pos ⟨h5, h6⟩]; rfl
    · rw [if_neg (fun h => h6 h.2), if_neg (fun h => h6 h.2)]
  · rw [if_neg (by omega), if_neg (by omega)]
/-- What a decoder holds while a paste goes on. -/
def pasteS (t : ByteArray) (at_ k : Nat) : KS := if k < at_ + 6 then (true, t.extract 0 k) else startK
def pasteOut (t : ByteArray) (at_ k : Nat) : List Ky := if k < at_ + 6 then [] else [⟨15, 0, cleanK (t.extract 0 at_)⟩]
theorem paste_feed {t : ByteArray} {at_ k : Nat} (he : endAt t at_ = true) (hn : ∀ j, j < at_ → endAt t j = false) (hk : k < at_ + 6) (hs : at_ + 6 ≤ t.size) :
    feedK (pasteS t at_ k) ((t.get! k).toNat : Int) = (pasteS t at_ (k + 1), pasteOut t at_ (k + 1)) := by
  unfold pasteS pasteOut
  rw [if_pos hk, feedK_p, paste_step (by omega)]
  by_cases h : k = at_ + 5
  · subst h
    rw [show at_ + 5 - 5 = at_ by omega, if_pos ⟨by omega, he⟩, if_neg (by omega), if_neg (by omega)]
  · rw [if_neg, if_pos (by omega), if_pos (by omega)]
    rintro ⟨h5, h6⟩
    rw [hn (k - 5) (by omega)] at h6
    cases h6
theorem paste_tick (t : ByteArray) (at_ k : Nat) : tickK (pasteS t at_ k) = (pasteS t at_ k, []) := by
  unfold pasteS
  split
  · rfl
  · rfl
theorem ext_00 (t : ByteArray) : t.extract 0 0 = ⟨#[]⟩ := by apply ByteArray.ext; simp
theorem pasteS_0 (t : ByteArray) (at_ : Nat) : pasteS t at_ 0 = (true, ⟨#[]⟩) := by unfold pasteS; rw [if_pos (by omega), ext_00]
/-- A text with an end behind it has one. -/
theorem end_behind (s : ByteArray) : endAt (s ++ endS) s.size = true := by
  unfold endAt
  rw [decide_eq_true_eq]
  have e : (s ++ endS).size = s.size + 6 := by rw [join_size]; rfl
  exact ⟨by omega, by rw [← e]; exact join_tail s endS⟩
/-- How much waits: no more than bytes were fed. -/
theorem first_size (x : Int) : (firstK x).1.size ≤ 1 := by
  unfold firstK
  (repeat' split) <;> first | exact Nat.le_refl 1 | exact Nat.zero_le 1
theorem seq_size (s : ByteArray) (x : Int) : (seqK s x).1.2.size ≤ s.size + 1 := by
  have e0 : ((⟨#[]⟩ : ByteArray)).size = 0 := rfl
  have := first_size x
  unfold seqK
  split
  · show (firstK x).1.size ≤ _; omega
  split
  · show (s ++ strOfNums [x]).size ≤ _; rw [join_size, one_size]; omega
  split
  · show ((⟨#[]⟩ : ByteArray)).size ≤ _; omega
  · show ((⟨#[]⟩ : ByteArray)).size ≤ _; omega
theorem code_size (alt : Bool) (w t : ByteArray) (x : Int) : (codeK alt w t x).1.size ≤ w.size + 1 := by
  have e0 : ((⟨#[]⟩ : ByteArray)).size = 0 := rfl
  have := first_size x
  unfold codeK
  split
  · show ((⟨#[]⟩ : ByteArray)).size ≤ _; omega
  split
  · show (w ++ strOfNums [x]).size ≤ _; rw [join_size, one_size]; omega
  · show (firstK x).1.size ≤ _; omega
theorem esc_size (x : Int) : (escK x).1.size ≤ 2 := by
  have := first_size x
  unfold escK
  split
  · show (escS ++ strOfNums [x]).size ≤ 2
    rw [join_size, one_size]; exact Nat.le_refl 2
  split
  · exact Nat.zero_le 2
  · show (firstK x).1.size ≤ _; omega
theorem third_size (x : Int) : (thirdK x).1.size ≤ 2 := by
  have := first_size x
  unfold thirdK
  split
  · exact Nat.zero_le 2
  split
  · exact Nat.zero_le 2
  · show (firstK x).1.size ≤ _; omega
theorem stays_size {p : ByteArray × List Ky} {n : Nat} (h : p.1.size ≤ n) : (stays p).1.2.size ≤ n := h
theorem wait_size (s : ByteArray) (x : Int) : (waitK s x).1.2.size ≤ s.size + 1 := by
  have h1 := first_size x
  have h2 := esc_size x
  have h3 := third_size x
  unfold waitK
  split
  · exact stays_size (by omega)
  split
  · rename_i h
    have : s.size = 1 := by rw [h]; rfl
    exact stays_size (by omega)
  split
  · rename_i h
    have : s.size = 2 := by rw [h]; rfl
    exact stays_size (by omega)
  split
  · exact seq_size s x
  split
  · exact stays_size (code_size true s _ x)
  · exact stays_size (code_size false s _ x)
theorem feed_size (p : KS) (x : Int) : (feedK p x).1.2.size ≤ p.2.size + 1 := by
  obtain ⟨b, s⟩ := p
  cases b
  · rw [feedK_w]; exact wait_size s x
  · rw [feedK_p]
    unfold pasteK
    split
    · exact Nat.zero_le _
    · show (s ++ strOfNums [x]).size ≤ _; rw [join_size, one_size]; exact Nat.le_refl _
theorem tick_size (p : KS) : (tickK p).1.2.size ≤ p.2.size := by
  unfold tickK
  (repeat' split) <;> first | exact Nat.le_refl _ | exact Nat.zero_le _
/-- What an object holds has come from bytes: each is a byte. -/
theorem stays_keys {p : ByteArray × List Ky} {n : Nat} (h : p.2.length ≤ n) : (stays p).2.length ≤ n := h
theorem first_keys (x : Int) : (firstK x).2.length ≤ 1 := by
  unfold firstK
  (repeat' split) <;> first | exact Nat.le_refl 1 | exact Nat.zero_le 1
theorem then_keys (k : Ky) (x : Int) : (thenK [k] x).2.length ≤ 2 := by
  have := first_keys x
  unfold thenK
  dsimp only
  rw [List.length_append]
  simp
  omega
theorem code_keys (alt : Bool) (w t : ByteArray) (x : Int) : (codeK alt w t x).2.length ≤ 2 := by
  unfold codeK
  split
  · exact Nat.le_succ 1
  split
  · exact Nat.zero_le 2
  · exact then_keys _ x
theorem seqEnd_keys (t : ByteArray) (x : Int) (l : List Ky) (h : seqEnd t x = some l) : l.length ≤ 2 := by
  unfold seqEnd at h
  (repeat' split at h) <;> cases h <;> exact Nat.le_succ 1
theorem seq_keys (s : ByteArray) (x : Int) : (seqK s x).2.length ≤ 2 := by
  unfold seqK
  split
  · exact stays_keys (then_keys _ x)
  split
  · exact Nat.zero_le 2
  cases h : seqEnd (s ++ strOfNums [x]) x with
  | none => exact Nat.zero_le 2
  | some l => exact seqEnd_keys _ _ _ h
theorem wait_keys (s : ByteArray) (x : Int) : (waitK s x).2.length ≤ 2 := by
  have hf := first_keys x
  unfold waitK
  split
  · exact stays_keys (by omega)
  split
  · refine stays_keys ?_
    unfold escK
    split
    · exact Nat.zero_le 2
    split
    · exact Nat.le_succ 1
    · exact then_keys _ x
  split
  · refine stays_keys ?_
    unfold thirdK
    split
    · exact Nat.le_succ 1
    split
    · exact Nat.le_succ 1
    · exact then_keys _ x
  split
  · exact seq_keys s x
  split
  · exact stays_keys (code_keys _ _ _ _)
  · exact stays_keys (code_keys _ _ _ _)
theorem feed_keys (p : KS) (x : Int) : (feedK p x).2.length ≤ 2 := by
  obtain ⟨b, s⟩ := p
  cases b
  · rw [feedK_w]; exact wait_keys s x
  · rw [feedK_p]
    unfold pasteK
    split
    · exact Nat.le_succ 1
    · exact Nat.zero_le 2
theorem tick_keys (p : KS) : (tickK p).2.length ≤ 1 := by
  unfold tickK
  (repeat' split) <;> first | exact Nat.le_refl 1 | exact Nat.zero_le 1
end Go.Proofs.YtiilgeinkocanaaDoor
