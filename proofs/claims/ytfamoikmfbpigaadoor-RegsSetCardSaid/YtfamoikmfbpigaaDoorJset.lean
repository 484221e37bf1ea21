/- A set that is shown is read. Plain. -/
import Derived.Test.YtfamoikmfbpigaaDoorJlist
namespace Go.Proofs.YtfamoikmfbpigaaDoor
open Go.RowKit

theorem hasS_bit {S : List Nat} (hl : S.length = 4) {b c : Nat} (hb : b < 256) (hc : c < 256) : hasS (bitS S b) c = (hasS S c || b == c) := by
  unfold hasS bitS
  rw [List.getElem?_set]
  by_cases h : b / 64 = c / 64
  · rw [if_pos h, if_pos (by omega), h]
    simp only [Option.getD_some]
    rw [Nat.testBit_or, Nat.testBit_two_pow]
    congr 1
    rw [Bool.eq_iff_iff, decide_eq_true_eq, beq_iff_eq]
    omega
  · rw [if_neg h]
    rw [show (b == c) = false by simp; intro e; exact h (by rw [e])]
    simp
theorem hasS_span {S : List Nat} (hl : S.length = 4) (a : Nat) : ∀ n, a + n ≤ 256 → ∀ c, c < 256 → hasS (spanS S a n) c = (hasS S c || (decide (a ≤ c) && decide (c < a + n)))
  | 0, _, c, _ => by
    rw [spanS, show (decide (a ≤ c) && decide (c < a + 0)) = false by rw [Bool.and_eq_false_iff]; by_cases h : a ≤ c; right; simp; omega; left; simp; omega]; simp
  | n + 1, h, c, hc => by
    rw [spanS, hasS_bit (by rw [spanS_len]; exact hl) (by omega) hc, hasS_span hl a n (by omega) c hc, Bool.or_assoc]
    congr 1
    rw [Bool.eq_iff_iff]
    simp
    omega
theorem hasS_no (c : Nat) : hasS noSet c = false := by
  unfold hasS
  rw [show noSet = List.replicate 4 0 from rfl, List.getElem?_replicate]
  split <;> simp
/-- Two sets that have the same bytes are one. -/
theorem set_ext {S T : List Nat} (hS : W64 S) (hT : W64 T) (h : ∀ c, c < 256 → hasS S c = hasS T c) : S = T := by
  apply List.ext_getElem?
  intro q
  by_cases hq : q < 4
  · have e1 : S[q]? = some (S[q]'(by rw [hS.1]; exact hq)) := List.getElem?_eq_getElem _
    have e2 : T[q]? = some (T[q]'(by rw [hT.1]; exact hq)) := List.getElem?_eq_getElem _
    rw [e1, e2]
    congr 1
    apply Nat.eq_of_testBit_eq
    intro r
    by_cases hr : r < 64
    · have := h (q * 64 + r) (by omega)
      unfold hasS at this
      rw [show (q * 64 + r) / 64 = q by omega, show (q * 64 + r) % 64 = r by omega, e1, e2] at this
      exact this
    · have h1 := hS.2 _ (List.getElem_mem (l := S) (n := q) (by rw [hS.1]; exact hq))
      have h2 := hT.2 _ (List.getElem_mem (l := T) (n := q) (by rw [hT.1]; exact hq))
      have hp : 18446744073709551616 ≤ 2 ^ r := by
        rw [show (18446744073709551616 : Nat) = 2 ^ 64 from rfl]
        exact Nat.pow_le_pow_right (by omega) (by omega)
      rw [Nat.testBit_lt_two_pow (by omega), Nat.testBit_lt_two_pow (by omega)]
  · rw [List.getElem?_eq_none (by rw [hS.1]; omega), List.getElem?_eq_none (by rw [hT.1]; omega)]
/-- Runs, put together. -/
def foldR (S : List Nat) (rs : List (Nat × Nat)) : List Nat := rs.foldl (fun S p => spanS S p.1 (p.2 + 1 - p.1)) S
def inR (rs : List (Nat × Nat)) (c : Nat) : Bool := rs.any fun p => decide (p.1 ≤ c) && decide (c ≤ p.2)
def RunsOk (rs : List (Nat × Nat)) : Prop := ∀ p ∈ rs, p.1 ≤ p.2 ∧ p.2 < 256
theorem foldR_len : ∀ (rs : List (Nat × Nat)) (S : List Nat), (foldR S rs).length = S.length
  | [], _ => rfl
  | p :: rs, S => by
    have := foldR_len rs (spanS S p.1 (p.2 + 1 - p.1))
    rw [spanS_len] at this
    exact this
theorem foldR_w : ∀ (rs : List (Nat × Nat)) (S : List Nat), W64 S → W64 (foldR S rs)
  | [], _, h => h
  | p :: rs, S, h => foldR_w rs _ (spanS_w h _ _)
theorem foldR_has : ∀ (rs : List (Nat × Nat)) (S : List Nat), S.length = 4 → RunsOk rs → ∀ c, c < 256 → hasS (foldR S rs) c = (hasS S c || inR rs c)
  | [], S, _, _, c, _ => by simp [foldR, inR]
  | p :: rs, S, hl, ho, c, hc => by
    have h1 := ho p (by simp)
    have ih := foldR_has rs (spanS S p.1 (p.2 + 1 - p.1)) (by rw [spanS_len]; exact hl) (fun q hq => ho q (by simp [hq])) c hc
    rw [hasS_span hl _ _ (by omega) c hc] at ih
    show hasS (foldR (spanS S p.1 (p.2 + 1 - p.1)) rs) c = _
    rw [ih, Bool.or_assoc]
    congr 1
    unfold inR
    rw [List.any_cons]
    congr 1
    rw [Bool.eq_iff_iff]
    simp
    omega
theorem endR_has (S : List Nat) : ∀ (f b : Nat), hasS S b = true → ∀ c, b ≤ c → c ≤ endR S f b → hasS S c = true
  | 0, b, h, c, h1, h2 => by
    rw [endR] at h2
    obtain rfl : b = c := by omega
    exact h
  | f + 1, b, h, c, h1, h2 => by
    rw [endR] at h2
    split at h2
    · rename_i hx
      by_cases e : b = c
      · rw [← e]; exact h
      · exact endR_has S f (b + 1) hx.2 c (by omega) h2
    · obtain rfl : b = c := by omega
      exact h
theorem scanR_ok (S : List Nat) : ∀ (f b : Nat), RunsOk (scanR S f b)
  | 0, b => by intro p hp; simp [scanR] at hp
  | f + 1, b => by
    intro p hp
    rw [scanR] at hp
    split at hp
    · rename_i hb
      split at hp
      · have := enR_bd S (b := b) (by omega)
        rcases List.mem_cons.1 hp with rfl | hp
        · exact ⟨this.1, by dsimp only; omega⟩
        · exact scanR_ok S f _ p hp
      · exact scanR_ok S f _ p hp
    · cases hp
theorem scanR_in (S : List Nat) : ∀ (f b : Nat), 256 - b ≤ f → ∀ c, c < 256 → inR (scanR S f b) c = (decide (b ≤ c) && hasS S c)
  | 0, b, hf, c, hc => by
    rw [decide_eq_false (by omega)]; simp [scanR, inR]
  | f + 1, b, hf, c, hc => by
    rw [scanR]
    by_cases hb : b < 256
    · rw [if_pos hb]
      cases h2 : hasS S b with
      | true =>
        rw [if_pos rfl]
        have h3 := enR_bd S (b := b) (by omega)
        have ih := scanR_in S f (enR S b + 1) (by omega) c hc
        unfold inR at ih ⊢
        rw [List.any_cons, ih]
        by_cases h4 : b ≤ c ∧ c ≤ enR S b
        · have := endR_has S (255 - b) b h2 c h4.1 h4.2
          rw [this, decide_eq_true h4.1, decide_eq_true h4.2]; simp
        · by_cases h5 : b ≤ c
          · rw [decide_eq_true h5, decide_eq_false (show ¬ c ≤ enR S b by omega), decide_eq_true (show enR S b + 1 ≤ c by omega)]; simp
          · rw [decide_eq_false h5, decide_eq_false (show ¬ enR S b + 1 ≤ c by omega)]; simp
      | false =>
        rw [if_neg (by decide), scanR_in S f (b + 1) (by omega) c hc]
        by_cases e : b = c
        · subst e; rw [h2]; simp
        · rw [show decide (b + 1 ≤ c) = decide (b ≤ c) by rw [decide_eq_decide]; omega]
    · rw [if_neg hb, decide_eq_false (by omega)]; simp [inR]
theorem fold_runs {S : List Nat} (hS : W64 S) : foldR noSet (scR S 0) = S := by
  apply set_ext (foldR_w _ _ noSet_w) hS
  intro c hc
  unfold scR
  rw [foldR_has _ _ rfl (scanR_ok S _ _) c hc, hasS_no, scanR_in S _ _ (by omega) c hc]
  simp
theorem many0 {rs : List (Nat × Nat)} (h : manyR rs = 0) : rs = [] := by
  cases rs with
  | nil => rfl
  | cons p l => simp [manyR] at h
theorem many1 {rs : List (Nat × Nat)} (hr : RunsOk rs) (h : manyR rs = 1) : ∃ b, b < 256 ∧ rs = [(b, b)] := by
  cases rs with
  | nil => simp [manyR] at h
  | cons p l =>
    obtain ⟨x, y⟩ := p
    have h1 := hr (x, y) (by simp)
    simp [manyR] at h h1
    have h2 : (l.map fun p => p.2 - p.1 + 1).sum = 0 := by omega
    obtain rfl := many0 (rs := l) h2
    obtain rfl : x = y := by omega
    exact ⟨x, h1.2, rfl⟩
/-- Runs' text, in brackets. -/
theorem bra_runs (r : List UInt8) : ∀ (rs : List (Nat × Nat)) (S : List Nat) (fst : Bool) (f : Nat), RunsOk rs → (rs ≠ [] ∨ fst = false) → rs.length < f → braL f fst (bl (rs.flatMap spanT ++ 93 :: r)) S = some (foldR S rs, bl (93 :: r))
  | [], S, fst, f, _, h, hf => by
    obtain ⟨f, rfl⟩ : ∃ g, f = g + 1 := ⟨f - 1, by simp at hf; omega⟩
    have hfst : fst = false := h.resolve_left (fun e => e rfl)
    rw [braL, hfst]
    show (if (false = true ∨ nextB (bl (93 :: r)) ≠ 93) then _ else _) = _
    rw [if_neg (by rw [nextB_cons]; decide)]; rfl
  | (a, e) :: rs, S, fst, f, ho, _, hf => by
    obtain ⟨f, rfl⟩ : ∃ g, f = g + 1 := ⟨f - 1, by simp at hf; omega⟩
    have ho1 := ho (a, e) (by simp)
    have ho2 : RunsOk rs := fun q hq => ho q (by simp [hq])
    dsimp only at ho1
    have ih := fun S => bra_runs r rs S false f ho2 (.inr rfl) (by simp at hf; omega)
    -- how the rest begins
    have hnext : ∃ c t, rs.flatMap spanT ++ 93 :: r = c :: t ∧ c.toNat ≠ 45 := by
      cases rs with
      | nil => exact ⟨93, r, rfl, by decide⟩
      | cons p l =>
        have h1 := ho2 p (by simp)
        obtain ⟨c, t, e1, -, -, e2⟩ := shown_head p.1 (by omega)
        refine ⟨c, t ++ (if p.1 < p.2 then 45 :: shownE p.2 else []) ++ (l.flatMap spanT ++ 93 :: r), ?_, e2⟩
        simp [spanT, e1]
    obtain ⟨c, t, hc, hc45⟩ := hnext
    obtain ⟨c0, t0, e0, hk0, -, -⟩ := shown_head a (by omega)
    have htext : (((a, e) :: rs).flatMap spanT ++ 93 :: r) = shownE a ++ ((if a < e then 45 :: shownE e else []) ++ (rs.flatMap spanT ++ 93 :: r)) := by simp [spanT]
    have hcond : fst = true ∨ nextB (bl (((a, e) :: rs).flatMap spanT ++ 93 :: r)) ≠ 93 := by
      right
      rw [htext, e0, List.cons_append, nextB_cons]
      exact hk0.2.1
    rw [braL, if_pos hcond, htext, let_shown a (by omega)]
    dsimp only
    by_cases hae : a < e
    · rw [if_pos hae, List.cons_append, if_pos (isB_yes (by decide)), bl_tail, let_shown e ho1.2]
      dsimp only
      rw [if_neg (by omega), ih]; rfl
    · rw [if_neg hae, List.nil_append, if_neg (by rw [hc, isB_no hc45]; decide), ih]
      obtain rfl : a = e := by omega
      show some (foldR (spanS S a 1) rs, _) = some (foldR (spanS S a (a + 1 - a)) rs, _)
      rw [show a + 1 - a = 1 by omega]
theorem len_runs : ∀ rs : List (Nat × Nat), RunsOk rs → rs.length ≤ (rs.flatMap spanT).length
  | [], _ => by simp
  | p :: l, h => by
    have := len_runs l (fun q hq => h q (by simp [hq]))
    have h1 := h p (by simp)
    obtain ⟨c, t, e, -⟩ := shown_head p.1 (by omega)
    rw [List.flatMap_cons, List.length_append]
    have : 1 ≤ (spanT p).length := by simp [spanT, e]
    simp only [List.length_cons]; omega
/-- A set's text, read. -/
theorem atom_set (R : ByteArray → Option (Nd × ByteArray)) {S : List Nat} (hS : W64 S) (r : List UInt8) : atomE R (bl (spansE S ++ r)) = some (.mk 1 S [], bl r) := by
  have hok : RunsOk (scR S 0) := scanR_ok S _ _
  have hfold := fold_runs hS
  unfold spansE
  by_cases h0 : manyR (scR S 0) = 0
  · rw [if_pos h0]
    rw [many0 h0] at hfold
    have hS0 : S = noSet := hfold.symm
    subst hS0
    have e : noneT ++ r = 91 :: 94 :: ([(0, 255)].flatMap spanT ++ 93 :: r) := by
      have : noneT = 91 :: 94 :: ([(0, 255)].flatMap spanT ++ [93]) := by decide +kernel
      rw [this]; simp
    unfold atomE
    rw [e, tk_cons]
    dsimp only
    rw [if_neg (by decide), if_pos (by decide)]
    unfold braE
    rw [skip_yes (by decide), bra_runs r [(0, 255)] noSet true _ (by intro p hp; simp at hp; subst hp; decide) (.inl (by simp)) (by rw [bl_size]; simp only [List.length_cons, List.length_append, List.length_nil]; omega)]
    dsimp only
    rw [if_pos (isB_yes (by decide)), bl_tail]
    have : cmpJ (foldR noSet [(0, 255)]) 4 = noSet := by decide +kernel
    rw [this]
  · rw [if_neg h0]
    by_cases h1 : manyR (scR S 0) = 1
    · rw [if_pos h1]
      obtain ⟨b, hb, e⟩ := many1 hok h1
      rw [e] at hfold ⊢
      have : [(b, b)].flatMap spanT = shownE b := by simp [spanT]
      rw [this, atom_shown R b hb]
      rw [← hfold]
      show some (Nd.mk 1 (spanS noSet b 1) [], _) = some (Nd.mk 1 (spanS noSet b (b + 1 - b)) [], _)
      rw [show b + 1 - b = 1 by omega]
    · rw [if_neg h1]
      have hne : scR S 0 ≠ [] := fun e => h0 (by rw [e]; rfl)
      have hhead : ∃ c t, (scR S 0).flatMap spanT ++ 93 :: r = c :: t ∧ c.toNat ≠ 94 := by
        cases hrs : scR S 0 with
        | nil => exact absurd hrs hne
        | cons p l =>
          have h1 := hok p (by rw [hrs]; simp)
          obtain ⟨c, t, e1, -, e2, -⟩ := shown_head p.1 (by omega)
          refine ⟨c, t ++ (if p.1 < p.2 then 45 :: shownE p.2 else []) ++ (l.flatMap spanT ++ 93 :: r), ?_, e2⟩
          simp [spanT, e1]
      obtain ⟨c, t, hc, hc94⟩ := hhead
      have e : (91 :: ((scR S 0).flatMap spanT ++ [93]) ++ r) = 91 :: ((scR S 0).flatMap spanT ++ 93 :: r) := by simp
      have hlen := len_runs _ hok
      unfold atomE
      rw [e, tk_cons]
      dsimp only
      rw [if_neg (by decide), if_pos (by decide)]
      unfold braE
      rw [show skipS (bl ((scR S 0).flatMap spanT ++ 93 :: r)) 94 = bl ((scR S 0).flatMap spanT ++ 93 :: r) by rw [hc]; exact skip_no hc94,
        bra_runs r _ noSet true _ hok (.inl hne) (by rw [bl_size]; simp only [List.length_cons, List.length_append]; omega)]
      dsimp only
      rw [if_neg (by rw [hc, isB_no hc94]; decide), bl_tail, hfold]
      rfl
end Go.Proofs.YtfamoikmfbpigaaDoor
