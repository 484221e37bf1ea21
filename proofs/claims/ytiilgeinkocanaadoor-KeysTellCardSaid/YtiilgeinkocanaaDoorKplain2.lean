/- Plain: runes, bytes that are kept, pauses. No program in sight. -/
import Derived.Test.YtiilgeinkocanaaDoorKplain
import Derived.Test.YtiilgeinkocanaaDoorAfront
namespace Go.Proofs.YtiilgeinkocanaaDoor

theorem feedK_w (s : ByteArray) (x : Int) : feedK (false, s) x = waitK s x := rfl
theorem feedK_p (s : ByteArray) (x : Int) : feedK (true, s) x = pasteK s x := rfl
theorem first_short {s : ByteArray} (h : s.size = 0) (x : Int) : waitK s x = stays (firstK x) := by unfold waitK; rw [if_pos h]
theorem get0_of {a : UInt8} {l : List UInt8} {s : ByteArray} (h : s = ⟨(a :: l).toArray⟩) : s.get! 0 = a := by subst h; rfl
/-- Behind a beginning of a rune. -/
theorem waitK_code {s : ByteArray} (h0 : 0 < s.size) (h : s.get! 0 ≠ 27) (x : Int) : waitK s x = stays (codeK false s s x) := by
  unfold waitK
  rw [if_neg (by omega), if_neg (fun e => h (by rw [e]; rfl)), if_neg (fun e => h (by rw [e]; rfl)), if_neg, if_neg h]
  rintro ⟨h2, e⟩
  apply h
  have := ext_get0 (s := s) (k := 2) (i := 0) (by omega) h2
  rw [← this, e]
  rfl
theorem beg_get {s : ByteArray} (h : begB s = true) : s.get! 0 ≠ 27 := by
  have := (beg_lt h).2.2
  intro e
  rw [e] at this
  exact absurd this (by decide)
theorem run_frontK {s : ByteArray} (h : 2 ≤ s.size) (hw : wholeB s = true) : ∀ k, 1 ≤ k → k < s.size → runK startK (s.data.toList.take k) = ((false, s.extract 0 k), []) := by
  intro k
  induction k with
  | zero => intro h1; omega
  | succ k ih =>
    intro h1 hk
    rw [take_byte (by omega), runK_app]
    by_cases hk0 : k = 0
    · subst hk0
      have eb := beg_front h hw (k := 1) (Nat.le_refl _) hk
      have ee : strOfNums [((s.get! 0).toNat : Int)] = s.extract 0 1 := by
        have := ext_push (s := s) (k := 0) (by omega)
        rw [← this]
        have e9 : s.extract 0 0 = ByteArray.empty := by apply ByteArray.ext; simp
        rw [e9, ByteArray.empty_append]
      have ef : feedK startK (s[0].toNat : Int) = ((false, s.extract 0 1), []) := by
        unfold startK
        rw [feedK_w, first_short rfl, ← get_of (by omega : 0 < s.size)]
        unfold firstK
        rw [if_pos (.inr (by rw [ee]; exact eb)), ee]
        rfl
      simp only [List.take_zero, runK, ef, List.nil_append]
    · rw [ih (by omega) (by omega)]
      have hz : (s.extract 0 k).size = k := by simp; omega
      have eb := beg_front h hw (k := k) (by omega) (by omega)
      have ef : feedK (false, s.extract 0 k) (s[k].toNat : Int) = ((false, s.extract 0 (k + 1)), []) := by
        rw [feedK_w, waitK_code (by omega) (beg_get eb), ← get_of (by omega : k < s.size)]
        unfold codeK
        rw [ext_push (by omega), if_neg (by rw [whole_front h hw (by omega) hk]; simp), if_pos (beg_front h hw (by omega) hk)]
        rfl
      simp only [runK, ef, List.nil_append]
theorem run_wholeK {s : ByteArray} (h : 2 ≤ s.size) (hw : wholeB s = true) : runK startK s.data.toList = (startK, kLet 1 (Utf8.decode s 0).1) := by
  have e : s.data.toList = s.data.toList.take (s.size - 1) ++ [s[s.size - 1]] := by
    rw [← take_byte (by omega), show s.size - 1 + 1 = s.size by omega, List.take_of_length_le (by rw [Array.length_toList]; exact Nat.le_refl _)]
  rw [e, runK_app, run_frontK h hw _ (by omega) (by omega)]
  have hx : s.extract 0 (s.size - 1) ++ strOfNums [((s.get! (s.size - 1)).toNat : Int)] = s := by
    rw [ext_push (by omega), show s.size - 1 + 1 = s.size by omega]
    have := extract_whole s
    rwa [Nat.zero_add] at this
  have hz : (s.extract 0 (s.size - 1)).size = s.size - 1 := by simp
  have eb := beg_front h hw (k := s.size - 1) (by omega) (by omega)
  have ef : feedK (false, s.extract 0 (s.size - 1)) (s[s.size - 1].toNat : Int) = (startK, kLet 1 (Utf8.decode s 0).1) := by
    rw [feedK_w, waitK_code (by omega) (beg_get eb), ← get_of (by omega : s.size - 1 < s.size)]
    unfold codeK
    rw [hx, if_pos hw]
    rfl
  simp only [runK, ef, List.nil_append, List.append_nil]
/-- What KeysRunes asks of a rune's bytes: behind all but the last one something waits, and no key was made; the last one makes the rune's key. -/
theorem rune_keys {r : Int} (hv : (0 ≤ r ∧ r < 55296) ∨ (57344 ≤ r ∧ r ≤ 1114111)) (h : 32 ≤ r) (h1 : r ≠ 127) :
    (∀ k, k < (putS r).size → 1 ≤ k → runK startK ((putS r).data.toList.take k) = ((false, (putS r).extract 0 k), [])) ∧ runK startK (putS r).data.toList = (startK, kLet 1 r) ∧ 1 ≤ (putS r).size ∧ (putS r).size ≤ 4 := by
  by_cases h2 : r < 128
  · rw [← putS_1 (by omega) h2]
    have hz : (strOfNums [r]).size = 1 := rfl
    refine ⟨fun k hk hk1 => by omega, ?_, by omega, by omega⟩
    have e : (strOfNums [r]).data.toList = [UInt8.ofNat r.toNat] := rfl
    have e2 : ((UInt8.ofNat r.toNat).toNat : Int) = r := by rw [ofNat_toNat (by omega)]; omega
    rw [e]
    have ef : feedK startK ((UInt8.ofNat r.toNat).toNat : Int) = (startK, kLet 1 r) := by
      rw [e2]
      unfold startK
      rw [feedK_w, first_short rfl]
      unfold firstK
      have hb : begB (strOfNums [r]) = false := by
        cases hb : begB (strOfNums [r])
        · rfl
        · have := (beg_lt hb).2.2
          have h3 := one_get (x := r) (by omega) (by omega)
          omega
      rw [if_neg (by rw [hb]; simp; omega), if_neg (by omega), if_neg (by omega), if_neg (by omega), if_neg (by omega), if_neg (by omega), if_pos h2]
      rfl
    simp only [runK, ef, List.append_nil]
  · obtain ⟨hd, hz1, hz4⟩ := decode_alone hv
    have hz : 2 ≤ (putS r).size := by
      rcases put_cases r with ⟨e, b⟩ | ⟨e, b⟩ | ⟨e, b⟩ | ⟨e, b⟩ | ⟨e, b⟩
      · omega
      · omega
      all_goals (rw [e]; first | exact (show 2 ≤ 2 by decide) | exact (show 2 ≤ 3 by decide) | exact (show 2 ≤ 4 by decide))
    have hw : wholeB (putS r) = true := by
      unfold wholeB dec3
      simp only [hd, Bool.and_eq_true, decide_eq_true_eq, and_true, Bool.not_eq_true', Bool.and_eq_false_iff, beq_eq_false_iff_ne]
      right; omega
    refine ⟨fun k hk hk1 => run_frontK hz hw k hk1 hk, ?_, hz1, hz4⟩
    have := run_wholeK hz hw
    rw [hd] at this
    rw [show ((r.toNat : Nat) : Int) = r by omega] at this
    exact this
/-- How many bytes a key is of. -/
def weighK (k : Ky) : Nat :=
  if k.kind = 0 then k.text.size else if k.kind = 1 then (putS k.r).size else if k.kind = 7 then 1 + (putS k.r).size else if 8 ≤ k.kind ∧ k.kind ≤ 13 then 3 else 1
def weighL (l : List Ky) : Nat := (l.map weighK).sum
theorem weighL_app (l m : List Ky) : weighL (l ++ m) = weighL l + weighL m := by simp [weighL]
theorem putS_small {x : Int} (h0 : 0 ≤ x) (h : x < 128) : (putS x).size = 1 := by rw [← putS_1 h0 h]; rfl
theorem first_weigh {x : Int} (h0 : 0 ≤ x) (h1 : x ≤ 255) : weighL (firstK x).2 + (firstK x).1.size = 1 := by
  have e1 : ∀ l : List Ky, weighL l = 1 → weighL ((⟨#[]⟩ : ByteArray), l).2 + ((⟨#[]⟩ : ByteArray), l).1.size = 1 := fun l h => by rw [h]; rfl
  unfold firstK
  split
  · rfl
  split
  · rfl
  split
  · rfl
  split
  · rfl
  split
  · rfl
  split
  · rfl
  split
  · refine e1 _ ?_
    have := putS_small (x := x) (by omega) (by omega)
    simp [weighL, kLet, weighK, this]
  · rfl
theorem then_weigh {x : Int} (h0 : 0 ≤ x) (h1 : x ≤ 255) (l : List Ky) : weighL (thenK l x).2 + (thenK l x).1.size = weighL l + 1 := by
  have := first_weigh h0 h1
  unfold thenK
  dsimp only
  rw [weighL_app]
  omega
theorem weigh_bad (s : ByteArray) : weighL (kBad s) = s.size := by simp [weighL, kBad, weighK]
theorem weigh_one (k : Int) (h : 8 ≤ k ∧ k ≤ 13) : weighL (kOne k) = 3 := by
  simp only [weighL, kOne, weighK, List.map_cons, List.map_nil, List.sum_cons, List.sum_nil]
  rw [if_neg (by omega), if_neg (by omega), if_neg (by omega), if_pos (by omega)]
  rfl
theorem whole_put {s : ByteArray} (h0 : 0 < s.size) (h : wholeB s = true) : (putS (Utf8.decode s 0).1).size = s.size := by
  unfold wholeB at h
  simp only [Bool.and_eq_true, decide_eq_true_eq] at h
  obtain ⟨r, hv, he, hl⟩ := ok_put h0 h.1
  have hd := decode_put hv he hl
  rw [hd.1]
  have e : ((r.toNat : Nat) : Int) = r := by omega
  rw [e]
  have := h.2
  rw [hd.1] at this
  exact this
theorem code_weigh {x : Int} (h0 : 0 ≤ x) (h1 : x ≤ 255) (alt : Bool) (w t : ByteArray) (hw : w.size = t.size + if alt = true then 1 else 0) : weighL (codeK alt w t x).2 + (codeK alt w t x).1.size = w.size + 1 := by
  unfold codeK
  have hz : (t ++ strOfNums [x]).size = t.size + 1 := by rw [join_size, one_size]
  split
  · rename_i h
    have := whole_put (by omega) h
    cases alt
    · have e0 : ((⟨#[]⟩ : ByteArray)).size = 0 := rfl
      simp [weighL, kLet, weighK, this, hz, e0]; simp at hw; omega
    · have e0 : ((⟨#[]⟩ : ByteArray)).size = 0 := rfl
      simp [weighL, kLet, weighK, this, hz, e0]; simp at hw; omega
  · split
    · show weighL [] + (w ++ strOfNums [x]).size = w.size + 1
      rw [join_size, one_size]; simp [weighL]
    · rw [then_weigh h0 h1, weigh_bad]
theorem arrow_bd (x : Int) : arrowK x = 0 ∨ (8 ≤ arrowK x ∧ arrowK x ≤ 13) := by
  unfold arrowK
  (repeat' split) <;> omega
theorem last_of {w : ByteArray} {x : Int} {l : List UInt8} {a : UInt8} (h0 : 0 ≤ x) (h1 : x ≤ 255) (hw : 2 ≤ w.size) (h : (w ++ strOfNums [x]).extract 2 (w ++ strOfNums [x]).size = ⟨(l ++ [a]).toArray⟩) : x = a.toNat := by
  have e := congrArg (fun b : ByteArray => b.data.toList.getLast?) h
  simp only [ByteArray.data_extract, Array.toList_extract, List.extract_eq_take_drop] at e
  rw [join_size, one_size] at e
  simp only [ByteArray.data_append, Array.toList_append] at e
  have e2 : (strOfNums [x]).data.toList = [UInt8.ofNat x.toNat] := rfl
  rw [e2] at e
  have hl : w.data.toList.length = w.size := Array.length_toList
  rw [List.take_of_length_le (by simp), List.drop_append_of_le_length (by omega)] at e
  simp at e
  rw [← e, ofNat_toNat (by omega)]
  omega
theorem seq_weigh {x : Int} (h0 : 0 ≤ x) (h1 : x ≤ 255) (hx : x ≠ 126) (w : ByteArray) (hw : 2 ≤ w.size) : (seqK w x).1.1 = false ∧ weighL (seqK w x).2 + (seqK w x).1.2.size = w.size + 1 := by
  have hz : (w ++ strOfNums [x]).size = w.size + 1 := by rw [join_size, one_size]
  unfold seqK
  split
  · exact ⟨rfl, by have := then_weigh h0 h1 (kBad w); rw [weigh_bad] at this; exact this⟩
  split
  · exact ⟨rfl, by show weighL [] + (w ++ strOfNums [x]).size = _; rw [hz]; simp [weighL]⟩
  have n1 : ∀ (l : List UInt8), ¬ (w ++ strOfNums [x]).extract 2 (w ++ strOfNums [x]).size = ⟨(l ++ [126]).toArray⟩ := fun l h => hx (by have := last_of h0 h1 hw h; simpa using this)
  have hs : seqEnd (w ++ strOfNums [x]) x = if (w ++ strOfNums [x]).size = 3 ∧ 0 < arrowK x then some (kOne (arrowK x)) else some (kBad (w ++ strOfNums [x])) := by
    unfold seqEnd
    have nb : ¬ (w ++ strOfNums [x]).extract 2 (w ++ strOfNums [x]).size = beginS := n1 [50, 48, 48]
    have na : ¬ (w ++ strOfNums [x]).extract 2 (w ++ strOfNums [x]).size = ⟨#[51, 126]⟩ := n1 [51]
    rw [if_neg nb]
    split
    · rfl
    · rw [if_neg (by rintro (h | h); exact n1 [49] h; exact n1 [55] h), if_neg (by rintro (h | h); exact n1 [52] h; exact n1 [56] h)]
  rw [hs]
  split
  · rename_i h; exfalso; split at h <;> cases h
  · rename_i l h
    refine ⟨rfl, ?_⟩
    show weighL l + 0 = _
    split at h
    · rename_i h3
      cases h
      rw [weigh_one _ (by rcases arrow_bd x with e | e <;> omega)]
      omega
    · cases h
      rw [weigh_bad, hz]
/-- Where no paste begins, each byte is kept: in what waits, or in a key. -/
theorem esc_weigh {x : Int} (h0 : 0 ≤ x) (h1 : x ≤ 255) : weighL (escK x).2 + (escK x).1.size = 2 := by
  unfold escK
  split
  · show weighL [] + (escS ++ strOfNums [x]).size = _
    rw [join_size, one_size]; rfl
  split
  · have := putS_small (x := x) (by omega) (by omega)
    have e0 : ((⟨#[]⟩ : ByteArray)).size = 0 := rfl
    simp [weighL, kLet, weighK, this, e0]
  · rw [then_weigh h0 h1]; rfl
theorem third_weigh {x : Int} (h0 : 0 ≤ x) (h1 : x ≤ 255) : weighL (thirdK x).2 + (thirdK x).1.size = 3 := by
  have e0 : ((⟨#[]⟩ : ByteArray)).size = 0 := rfl
  unfold thirdK
  split
  · show weighL (kOne (arrowK x)) + _ = 3
    rw [weigh_one _ (by rcases arrow_bd x with e | e <;> omega), e0]
  split
  · show weighL (kBad _) + _ = 3
    rw [weigh_bad, join_size, one_size, e0]; rfl
  · rw [then_weigh h0 h1, weigh_bad]; rfl
theorem wait_weigh {x : Int} (h0 : 0 ≤ x) (h1 : x ≤ 255) (hx : x ≠ 126) (s : ByteArray) : (waitK s x).1.1 = false ∧ weighL (waitK s x).2 + (waitK s x).1.2.size = s.size + 1 := by
  have st : ∀ (p : ByteArray × List Ky) (n : Nat), weighL p.2 + p.1.size = n → (stays p).1.1 = false ∧ weighL (stays p).2 + (stays p).1.2.size = n := fun p n h => ⟨rfl, h⟩
  unfold waitK
  split
  · rename_i h; exact st _ _ (by have := first_weigh h0 h1; omega)
  split
  · rename_i h
    have e : s.size = 1 := by rw [h]; rfl
    exact st _ _ (by rw [esc_weigh h0 h1, e])
  split
  · rename_i h
    have e : s.size = 2 := by rw [h]; rfl
    exact st _ _ (by rw [third_weigh h0 h1, e])
  split
  · rename_i h; exact seq_weigh h0 h1 hx s h.1
  split
  · exact st _ _ (code_weigh h0 h1 true s _ (by rw [ByteArray.size_extract]; simp; omega))
  · exact st _ _ (code_weigh h0 h1 false s s rfl)
theorem run_weigh (l : List UInt8) (h : ∀ c ∈ l, c ≠ 126) : ∀ s : ByteArray, (runK (false, s) l).1.1 = false ∧ weighL (runK (false, s) l).2 + (runK (false, s) l).1.2.size = s.size + l.length := by
  induction l with
  | nil => intro s; exact ⟨rfl, by simp [runK, weighL]⟩
  | cons c l ih =>
    intro s
    have hc : c ≠ 126 := h c (List.mem_cons_self ..)
    have := c.toNat_lt
    obtain ⟨a, b⟩ := wait_weigh (x := (c.toNat : Int)) (by omega) (by omega) (by intro e; apply hc; apply UInt8.toNat_inj.1; show c.toNat = 126; omega) s
    simp only [runK, feedK_w]
    obtain ⟨p, q⟩ : ∃ p, (waitK s c.toNat).1 = (false, p) := ⟨(waitK s c.toNat).1.2, by rw [← a]⟩
    rw [q] at b ⊢
    obtain ⟨i1, i2⟩ := ih (fun c h2 => h c (List.mem_cons_of_mem _ h2)) p
    refine ⟨i1, ?_⟩
    rw [weighL_app]
    simp only [List.length_cons]
    dsimp only at b
    omega
/-- A pause makes a key of all that waits. -/
theorem tick_weigh (s : ByteArray) : weighL (tickK (false, s)).2 = s.size := by
  unfold tickK
  rw [if_neg (by simp)]
  split
  · rename_i h; dsimp only at h; rw [h]; rfl
  split
  · rename_i h; dsimp only at h; rw [h]; rfl
  · exact weigh_bad s
theorem told_weigh (s : ByteArray) (h : ∀ c ∈ s.data.toList, c ≠ 126) : weighL (toldK s true) = s.size := by
  unfold toldK
  obtain ⟨a, b⟩ := run_weigh s.data.toList h ⟨#[]⟩
  obtain ⟨p, q⟩ : ∃ p, (runK startK s.data.toList).1 = (false, p) := ⟨(runK startK s.data.toList).1.2, by rw [← a]; rfl⟩
  rw [if_pos rfl, weighL_app, q, tick_weigh]
  have b' : weighL (runK startK s.data.toList).2 + p.size = 0 + s.data.toList.length := by
    have : (runK startK s.data.toList).1.2 = p := by rw [q]
    rw [← this]; exact b
  rw [Array.length_toList] at b'
  have : s.data.size = s.size := rfl
  omega
/-- Behind a pause nothing waits, but a paste. -/
theorem tick_waits (p : KS) : (tickK p).1.1 = true ∨ (tickK p).1 = startK := by
  unfold tickK
  split
  · rename_i h; exact .inl h
  split
  · rename_i h1 h2
    right
    obtain ⟨a, b⟩ := p
    dsimp only at h1 h2
    simp only [Bool.not_eq_true] at h1
    rw [h1, size0 h2]; rfl
  split
  · exact .inr rfl
  · exact .inr rfl
theorem tick_again (p : KS) (h : p.1 = true) : tickK p = (p, []) := by unfold tickK; rw [if_pos h]
end Go.Proofs.YtiilgeinkocanaaDoor
