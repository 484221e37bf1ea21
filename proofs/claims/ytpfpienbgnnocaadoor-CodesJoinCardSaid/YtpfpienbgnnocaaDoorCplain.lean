/- The plain laws of Codes. No program in sight but for the names of what is proved. -/
import Derived.Test.YtpfpienbgnnocaaDoorLast
import Derived.Test.YtpfpienbgnnocaaDoorCount
namespace Go.Proofs.YtpfpienbgnnocaaDoor

theorem ok_start {s : ByteArray} {i : Nat} (h : (dec3 s i).2.2 = true) : (s.get! i).toNat / 64 ≠ 2 := by
  obtain ⟨_, h192, _, _, herr⟩ := dec_facts s i
  by_cases h2 : 2 ≤ (Utf8.decode s i).2
  · have := h192 h2; omega
  · by_cases hb : (s.get! i).toNat < 128
    · omega
    · have hw := Lib.width_pos s i
      have e := herr (by omega) (by omega)
      rw [dec3, e] at h; simp at h
theorem join_get (a b : ByteArray) (j : Nat) : (a ++ b).get! (a.size + j) = b.get! j := by
  rw [← Lib.tail_get!, join_tail]

/-- A sum over the runes of two texts, of which the second one begins as a rune does, is that of both. -/
theorem sum_behind (g : Nat → Nat → Int) (F : ByteArray → Nat → Nat → Int) (hend : ∀ s f pos, ¬ pos < s.size → F s f pos = 0) (hgo : ∀ s f pos, pos < s.size → F s (f + 1) pos = g (Utf8.decode s pos).1 (Utf8.decode s pos).2 + F s f (pos + (Utf8.decode s pos).2)) (a b : ByteArray) (hb : b.size = 0 ∨ (b.get! 0).toNat / 64 ≠ 2) :
    ∀ (f k pos : Nat), pos ≤ a.size → a.size ≤ pos + k → a.size + b.size ≤ pos + f → F (a ++ b) f pos = F a k pos + F b b.size 0 := by
  obtain ⟨A, B, _⟩ := sum_join g F hend hgo a b
  intro f
  induction f with
  | zero =>
    intro k pos h1 h2 h3
    rw [hend _ _ _ (by rw [join_size]; omega), hend a _ _ (by omega), hend b _ _ (by omega)]; rfl
  | succ f ih =>
    intro k pos h1 h2 h3
    by_cases hp : pos < a.size
    · obtain ⟨k, rfl⟩ : ∃ m, k = m + 1 := ⟨k - 1, by omega⟩
      have hd := dec_in (a ++ b) pos (by rw [join_size]; omega)
      rw [join_size] at hd
      have hle : pos + (Utf8.decode (a ++ b) pos).2 ≤ a.size := by
        rcases hb with hb | hb
        · omega
        · by_cases hx : pos + (Utf8.decode (a ++ b) pos).2 ≤ a.size
          · exact hx
          · have := (dec_facts (a ++ b) pos).2.2.1 (a.size - pos) (by omega) (by omega)
            rw [show pos + (a.size - pos) = a.size + 0 by omega, join_get] at this
            exact absurd this hb
      have e := decode_prefix (s := a ++ b) (p := a.size) (i := pos) (by rw [join_size]; omega) hp hle
      rw [show (a ++ b).extract 0 a.size = a by have := join_front (a := a) (b := b) (i := 0) (n := a.size) (by omega); rw [Nat.zero_add] at this; rw [this]; have := extract_whole a; rw [Nat.zero_add] at this; exact this] at e
      rw [← e] at hle hd
      rw [hgo _ _ _ (by rw [join_size]; omega), hgo _ _ _ hp, ← e, ih k _ hle (by omega) (by omega), Int.add_assoc]
    · have hz : pos = a.size + 0 := by omega
      rw [hend a _ _ hp, hz, B (f + 1) 0 (by omega), A (f + 1) b.size 0 (by omega) (by omega), Int.zero_add]

def cnt (s : ByteArray) (f pos : Nat) : Int := (Lib.runeCountFrom s f pos : Nat)
theorem cnt_end (s : ByteArray) (f pos : Nat) (h : ¬ pos < s.size) : cnt s f pos = 0 := by rw [cnt, Lib.runeCountFrom_end s f pos h]; rfl
theorem cnt_go (s : ByteArray) (f pos : Nat) (h : pos < s.size) : cnt s (f + 1) pos = 1 + cnt s f (pos + (Utf8.decode s pos).2) := by rw [cnt, countFrom_go h, cnt]; omega
/-- How many bytes are of no rune. -/
def badFrom (s : ByteArray) : Nat → Nat → Int
  | 0, _ => 0
  | f + 1, pos => if pos < s.size then (if (Utf8.decode s pos).1 = 65533 ∧ (Utf8.decode s pos).2 = 1 then 1 else 0) + badFrom s f (pos + (Utf8.decode s pos).2) else 0
theorem badf_end (s : ByteArray) (f pos : Nat) (h : ¬ pos < s.size) : badFrom s f pos = 0 := by
  cases f with
  | zero => rfl
  | succ f => simp only [badFrom]; rw [if_neg h]
theorem badf_go (s : ByteArray) (f pos : Nat) (h : pos < s.size) : badFrom s (f + 1) pos = (if (Utf8.decode s pos).1 = 65533 ∧ (Utf8.decode s pos).2 = 1 then 1 else 0) + badFrom s f (pos + (Utf8.decode s pos).2) := by
  simp only [badFrom]; rw [if_pos h]
theorem bad_pos (s : ByteArray) : ∀ f pos, 0 ≤ badFrom s f pos
  | 0, _ => by simp [badFrom]
  | f + 1, pos => by
    have := bad_pos s f (pos + (Utf8.decode s pos).2)
    simp only [badFrom]; split
    · split <;> omega
    · omega
theorem valid_end {s : ByteArray} {pos : Nat} (h : ¬ pos < s.size) : Lib.validD (s.data.toList.drop pos) = true := by
  rw [List.drop_of_length_le (by rw [← size_list]; omega)]; rfl
theorem valid_bad (s : ByteArray) : ∀ f pos, s.size ≤ pos + f → Lib.validD (s.data.toList.drop pos) = decide (badFrom s f pos = 0)
  | 0, pos, h => by rw [valid_end (by omega)]; simp [badFrom]
  | f + 1, pos, h => by
    by_cases hp : pos < s.size
    · have hw := Lib.width_pos s pos
      rw [valid_at s pos hp, badf_go s f pos hp, valid_bad s f _ (by omega)]
      have := bad_pos s f (pos + (Utf8.decode s pos).2)
      cases hk : (dec3 s pos).2.2
      · rw [dec3_ok hk] at this ⊢; rw [if_pos ⟨rfl, rfl⟩, Bool.false_and]
        rw [eq_comm, decide_eq_false_iff_not]; omega
      · have : ¬ ((Utf8.decode s pos).1 = 65533 ∧ (Utf8.decode s pos).2 = 1) := by
          intro e; rw [dec3, e.1, e.2] at hk; simp at hk
        rw [if_neg this, Bool.true_and, Int.zero_add]
    · rw [valid_end hp, badf_end s _ _ hp]; rfl
theorem validS_bad (s : ByteArray) : validS s = decide (badFrom s s.size 0 = 0) := by
  have := valid_bad s s.size 0 (by omega)
  rw [List.drop_zero] at this; exact this
theorem valid_first {a : ByteArray} (h : validS a = true) : a.size = 0 ∨ (a.get! 0).toNat / 64 ≠ 2 := by
  by_cases h0 : a.size = 0
  · exact .inl h0
  · right
    have := valid_at a 0 (by omega)
    rw [List.drop_zero] at this
    rw [validS, this, Bool.and_eq_true] at h
    exact ok_start h.1

theorem count_join {a b : ByteArray} (h : validS a = true) : ((Lib.runeCount (a ++ b) : Nat) : Int) = (Lib.runeCount a : Nat) + (Lib.runeCount b : Nat) :=
  (sum_join (fun _ _ => 1) cnt cnt_end cnt_go a b).2.2 (a ++ b).size a.size 0 (by omega) (by omega) (by rw [join_size]; omega) (by rw [List.drop_zero]; exact h)
theorem count_behind {a b : ByteArray} (h : validS a = true) : ((Lib.runeCount (b ++ a) : Nat) : Int) = (Lib.runeCount a : Nat) + (Lib.runeCount b : Nat) := by
  have := sum_behind (fun _ _ => 1) cnt cnt_end cnt_go b a (valid_first h) (b ++ a).size b.size 0 (by omega) (by omega) (by rw [join_size]; omega)
  rw [Int.add_comm]; exact this
theorem valid_join {a b : ByteArray} (h : validS a = true) : validS (a ++ b) = validS b := by
  have e := (sum_join (fun c n => if c = 65533 ∧ n = 1 then 1 else 0) badFrom badf_end badf_go a b).2.2 (a ++ b).size a.size 0 (by omega) (by omega) (by rw [join_size]; omega) (by rw [List.drop_zero]; exact h)
  rw [validS_bad] at h ⊢
  rw [validS_bad, e, of_decide_eq_true h, Int.zero_add]
theorem valid_behind {a b : ByteArray} (h : validS a = true) : validS (b ++ a) = validS b := by
  have e := sum_behind (fun c n => if c = 65533 ∧ n = 1 then 1 else 0) badFrom badf_end badf_go b a (valid_first h) (b ++ a).size b.size 0 (by omega) (by omega) (by rw [join_size]; omega)
  rw [validS_bad] at h ⊢
  rw [validS_bad, e, of_decide_eq_true h, Int.add_zero]

/-- There are as many runes as places where they stand. -/
theorem count_len (s : ByteArray) : ∀ f pos, Lib.runeCountFrom s f pos = (startsFrom s f pos).length
  | 0, _ => rfl
  | f + 1, pos => by
    simp only [Lib.runeCountFrom, startsFrom]
    split
    · rw [count_len s f, List.length_cons]; omega
    · rfl
theorem count_starts (s : ByteArray) : Lib.runeCount s = (starts s).length := count_len s _ _
/-- A text is Valid just if a rune stands at each place. -/
theorem valid_all (s : ByteArray) : ∀ f pos, s.size ≤ pos + f → Lib.validD (s.data.toList.drop pos) = (startsFrom s f pos).all fun k => (dec3 s k).2.2
  | 0, pos, h => by rw [valid_end (by omega)]; rfl
  | f + 1, pos, h => by
    by_cases hp : pos < s.size
    · have hw := Lib.width_pos s pos
      rw [valid_at s pos hp, startsFrom_go hp, valid_all s f _ (by omega), List.all_cons]
    · rw [valid_end hp, startsFrom_end hp]; rfl
theorem valid_starts (s : ByteArray) : validS s = (starts s).all fun k => (dec3 s k).2.2 := by
  have := valid_all s s.size 0 (by omega)
  rw [List.drop_zero] at this; exact this

/-- What is put is read, from its front and from its end, whatever stands around it. -/
theorem put_front {r : Int} (hv : (0 ≤ r ∧ r < 55296) ∨ (57344 ≤ r ∧ r ≤ 1114111)) (a : ByteArray) : Utf8.decode (a ++ putS r) a.size = (r.toNat, (putS r).size) ∧ (dec3 (a ++ putS r) a.size).2.2 = true ∧ 1 ≤ (putS r).size ∧ (putS r).size ≤ 4 := by
  obtain ⟨e, h1, h4⟩ := decode_alone hv
  have d : Utf8.decode (a ++ putS r) a.size = (r.toNat, (putS r).size) := by
    have := decode_behind a (putS r) 0; rw [Nat.add_zero] at this; rw [this, e]
  refine ⟨d, ?_, h1, h4⟩
  cases hk : (dec3 (a ++ putS r) a.size).2.2
  · have := dec3_ok hk; rw [d] at this; exact absurd this (put_ok hv)
  · rfl
theorem put_around {r : Int} (hv : (0 ≤ r ∧ r < 55296) ∨ (57344 ≤ r ∧ r ≤ 1114111)) (a b : ByteArray) : Utf8.decode (a ++ putS r ++ b) a.size = (r.toNat, (putS r).size) ∧ (dec3 (a ++ putS r ++ b) a.size).2.2 = true := by
  obtain ⟨d, k, h1, _⟩ := put_front hv a
  have e := (decode_front (b := b) (show a.size < (a ++ putS r).size by rw [join_size]; omega) k).1
  exact ⟨by rw [e, d], by unfold dec3 at k ⊢; rw [e]; exact k⟩
theorem put_end {r : Int} (hv : (0 ≤ r ∧ r < 55296) ∨ (57344 ≤ r ∧ r ≤ 1114111)) (a b : ByteArray) : (a ++ putS r ++ b).extract 0 (a.size + (putS r).size) = a ++ putS r ∧ lastS (a ++ putS r) = a.size := by
  obtain ⟨d, k, h1, _⟩ := put_front hv a
  constructor
  · have h := join_front (a := a ++ putS r) (b := b) (i := 0) (n := (a ++ putS r).size) (by omega)
    have h2 := extract_whole (a ++ putS r)
    rw [h2, Nat.zero_add, join_size] at h
    exact h
  · have hs : a.size < (a ++ putS r).size := by rw [join_size]; omega
    exact ((lastS_spec (s := a ++ putS r) (by omega)).2.2.2 a.size (start_mem hs (ok_start k) _ 0 (by omega) (by omega)) (by rw [d, join_size])).symm
end Go.Proofs.YtpfpienbgnnocaaDoor
