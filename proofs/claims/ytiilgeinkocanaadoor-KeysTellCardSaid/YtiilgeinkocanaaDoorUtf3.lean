/- Two texts, one behind the other: plain facts. No program in sight. -/
import Derived.Test.YtiilgeinkocanaaDoorUtf2
import Derived.Lib.RuneCountTail
import Derived.Lib.ValidLaws
namespace Go.Proofs.YtiilgeinkocanaaDoor

theorem join_data (a b : ByteArray) : (a ++ b).data.toList = a.data.toList ++ b.data.toList := by simp
theorem join_size (a b : ByteArray) : (a ++ b).size = a.size + b.size := ByteArray.size_append
theorem size_list (a : ByteArray) : a.size = a.data.toList.length := rfl
theorem join_front {a b : ByteArray} {i n : Nat} (h : i + n ≤ a.size) : (a ++ b).extract i (i + n) = a.extract i (i + n) := by
  rw [Lib.extract_eq, Lib.extract_eq, join_data]
  have : i ≤ a.data.toList.length := by rw [← size_list]; omega
  rw [List.drop_append_of_le_length this, List.take_append_of_le_length (by rw [List.length_drop, ← size_list]; omega)]
theorem join_tail (a b : ByteArray) : (a ++ b).extract a.size (a ++ b).size = b := by
  rw [Lib.extract_eq, join_data, join_size, List.drop_append_of_le_length (by rw [← size_list]; exact Nat.le_refl _), List.drop_of_length_le (by rw [← size_list]; exact Nat.le_refl _), List.nil_append, Nat.add_sub_cancel_left, List.take_of_length_le (by rw [← size_list]; exact Nat.le_refl _)]
theorem decode_behind (a b : ByteArray) (j : Nat) : Utf8.decode (a ++ b) (a.size + j) = Utf8.decode b j := by
  rw [← Lib.tail_decode, join_tail]

/-- Where a rune stands, its bytes are those that it is put as. -/
theorem ok_put {s : ByteArray} {i : Nat} (hi : i < s.size) (h : (dec3 s i).2.2 = true) : ∃ r : Int, ((0 ≤ r ∧ r < 55296) ∨ (57344 ≤ r ∧ r ≤ 1114111)) ∧ s.extract i (i + (putS r).size) = putS r ∧ i + (putS r).size ≤ s.size := by
  rw [← nxt_dec s i hi] at h
  unfold nxt at h
  dsimp only at h
  split at h
  · rename_i hc
    obtain ⟨h0, h1, h2⟩ := hc
    have hz : (putS (acc s i (begN (s.get! i).toNat))).size = begN (s.get! i).toNat := by
      rw [h2, ext_get s i _ h1]; simp [ByteArray.size]
    refine ⟨acc s i (begN (s.get! i).toNat), ?_, by rw [hz, h2], by rw [hz]; exact h1⟩
    rcases put_cases (acc s i (begN (s.get! i).toNat)) with ⟨e, b⟩ | b | b | b | b
    · rw [e] at hz; simp [ByteArray.size] at hz; omega
    all_goals omega
  · simp at h
theorem decode_front {a b : ByteArray} {i : Nat} (hi : i < a.size) (h : (dec3 a i).2.2 = true) : Utf8.decode (a ++ b) i = Utf8.decode a i ∧ i + (Utf8.decode a i).2 ≤ a.size := by
  obtain ⟨r, hv, he, hs⟩ := ok_put hi h
  have d := (decode_put hv he hs).1
  have e := (decode_put (s := a ++ b) hv (by rw [join_front hs, he]) (by rw [join_size]; omega)).1
  exact ⟨by rw [d, e], by rw [d]; exact hs⟩

theorem valid_at (s : ByteArray) (i : Nat) (hi : i < s.size) : Lib.validD (s.data.toList.drop i) = ((dec3 s i).2.2 && Lib.validD (s.data.toList.drop (i + (Utf8.decode s i).2))) := by
  have hne : s.data.toList.drop i ≠ [] := by
    intro h; have := congrArg List.length h; rw [List.length_drop, ← size_list] at this; simp at this; omega
  rw [Lib.validD_step _ hne, Lib.decodeL_drop, List.drop_drop]
  unfold dec3
  by_cases h : (Utf8.decode s i).1 = 65533 ∧ (Utf8.decode s i).2 = 1
  · rw [if_pos h]; simp [h.1, h.2]
  · rw [if_neg h]
    have : (!((Utf8.decode s i).1 == 65533 && (Utf8.decode s i).2 == 1)) = true := by
      simp only [Bool.not_eq_true', Bool.and_eq_false_iff, beq_eq_false_iff_ne]; omega
    rw [this, Bool.true_and]

/-- A sum over the runes of two texts, the first one Valid, is that of both. -/
theorem sum_join (g : Nat → Nat → Int) (F : ByteArray → Nat → Nat → Int) (hend : ∀ s f pos, ¬ pos < s.size → F s f pos = 0) (hgo : ∀ s f pos, pos < s.size → F s (f + 1) pos = g (Utf8.decode s pos).1 (Utf8.decode s pos).2 + F s f (pos + (Utf8.decode s pos).2)) (a b : ByteArray) :
    (∀ (f k pos : Nat), b.size ≤ pos + f → b.size ≤ pos + k → F b f pos = F b k pos) ∧ (∀ (f pos : Nat), b.size ≤ pos + f → F (a ++ b) f (a.size + pos) = F b f pos) ∧ ∀ (f k pos : Nat), pos ≤ a.size → a.size ≤ pos + k → a.size + b.size ≤ pos + f → Lib.validD (a.data.toList.drop pos) = true → F (a ++ b) f pos = F a k pos + F b b.size 0 := by
  have A : ∀ (f k pos : Nat), b.size ≤ pos + f → b.size ≤ pos + k → F b f pos = F b k pos := by
    intro f
    induction f with
    | zero => intro k pos h1 h2; rw [hend _ _ _ (by omega), hend _ _ _ (by omega)]
    | succ f ih =>
      intro k pos h1 h2
      by_cases hp : pos < b.size
      · obtain ⟨k, rfl⟩ : ∃ m, k = m + 1 := ⟨k - 1, by omega⟩
        have hw := Lib.width_pos b pos
        rw [hgo _ _ _ hp, hgo _ _ _ hp, ih k _ (by omega) (by omega)]
      · rw [hend _ _ _ hp, hend _ _ _ hp]
  have B : ∀ (f pos : Nat), b.size ≤ pos + f → F (a ++ b) f (a.size + pos) = F b f pos := by
    intro f
    induction f with
    | zero => intro pos h; rw [hend _ _ _ (by rw [join_size]; omega), hend _ _ _ (by omega)]
    | succ f ih =>
      intro pos h
      by_cases hp : pos < b.size
      · have hw := Lib.width_pos b pos
        rw [hgo _ _ _ (by rw [join_size]; omega), hgo _ _ _ hp, decode_behind, Nat.add_assoc, ih _ (by omega)]
      · rw [hend _ _ _ (by rw [join_size]; omega), hend _ _ _ hp]
  refine ⟨A, B, ?_⟩
  intro f
  induction f with
  | zero =>
    intro k pos h1 h2 h3 _
    rw [hend _ _ _ (by rw [join_size]; omega), hend a _ _ (by omega), hend b _ _ (by omega)]; rfl
  | succ f ih =>
    intro k pos h1 h2 h3 hv
    by_cases hp : pos < a.size
    · obtain ⟨k, rfl⟩ : ∃ m, k = m + 1 := ⟨k - 1, by omega⟩
      rw [valid_at a pos hp, Bool.and_eq_true] at hv
      obtain ⟨e, hle⟩ := decode_front (b := b) hp hv.1
      have hw := Lib.width_pos a pos
      rw [hgo _ _ _ (by rw [join_size]; omega), hgo _ _ _ hp, e, ih k _ hle (by omega) (by omega) hv.2, Int.add_assoc]
    · have hz : pos = a.size + 0 := by omega
      rw [hend a _ _ hp, hz, B (f + 1) 0 (by omega), A (f + 1) b.size 0 (by omega) (by omega), Int.zero_add]
end Go.Proofs.YtiilgeinkocanaaDoor
