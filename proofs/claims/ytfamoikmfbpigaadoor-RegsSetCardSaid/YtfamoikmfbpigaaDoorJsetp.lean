/- RegsSet: what is read of two bytes. Plain. -/
import Derived.Test.YtfamoikmfbpigaaDoorJpar
namespace Go.Proofs.YtfamoikmfbpigaaDoor
open Go.RowKit

/-- A byte by its number to the base 16. -/
def hxT (a : Nat) : List UInt8 := [92, 120, hexB (a / 16), hexB (a % 16)]
theorem esc_hx (a : Nat) (ha : a < 256) (r : List UInt8) : escE (bl (120 :: hexB (a / 16) :: hexB (a % 16) :: r)) = some (a, bl r) := by
  rw [esc_hex _ _ (by omega) (by omega), show a / 16 * 16 + a % 16 = a by omega]
theorem let_hx (a : Nat) (ha : a < 256) (r : List UInt8) : letE (bl (hxT a ++ r)) = some (a, bl r) := by
  unfold letE hxT
  rw [List.cons_append, tk_cons]
  dsimp only
  rw [if_pos (by decide)]
  exact esc_hx a ha r
theorem parse_atom {n : Nd} {txt : List UInt8} (h : ∀ (R : ByteArray → Option (Nd × ByteArray)) r, atomE R (bl (txt ++ r)) = some (n, bl r)) (hh : HeadOk txt) (hl : txt.length ≤ 200) : parseP (bl txt) = (n, 0) := by
  unfold parseP
  rw [if_neg (by rw [bl_size]; omega), bl_size, rowsE]
  have := rows_one (row_one (R := rowsE txt.length) (n := n) (txt := txt) (fun r => ⟨n, r, h _ r, rfl⟩) hh) (.inl rfl)
  rw [List.append_nil] at this
  rw [this]
  rfl
theorem hx_head (a : Nat) (t : List UInt8) : hxT a ++ t = 92 :: ([120, hexB (a / 16), hexB (a % 16)] ++ t) := rfl
theorem parse_one (a : Nat) (ha : a < 256) : parseP (bl (hxT a)) = (.mk 1 (spanS noSet a 1) [], 0) := by
  refine parse_atom (fun R r => ?_) ⟨92, _, rfl, by decide, by decide, by decide, by decide, by decide, by decide⟩ (by simp [hxT])
  unfold atomE
  rw [hx_head, tk_cons]
  dsimp only
  rw [if_neg (by decide), if_neg (by decide), if_neg (by decide), if_pos (by decide)]
  show (match escE (bl (120 :: hexB (a / 16) :: hexB (a % 16) :: r)) with | none => (none : Option (Nd × ByteArray)) | some (c, t2) => some (Nd.mk 1 (spanS noSet c 1) [], t2)) = _
  rw [esc_hx a ha r]
/-- One step in brackets: a byte alone. -/
theorem bra_one (f : Nat) (fst : Bool) (a : Nat) (ha : a < 256) (S : List Nat) (c : UInt8) (t : List UInt8) (hc : c.toNat ≠ 45) : braL (f + 1) fst (bl (hxT a ++ c :: t)) S = braL f false (bl (c :: t)) (spanS S a 1) := by
  rw [braL, if_pos (.inr (by rw [hx_head, nextB_cons]; decide)), let_hx a ha]
  dsimp only
  rw [if_neg (by rw [isB_no hc]; decide)]
theorem bra_two (f : Nat) (fst : Bool) (a b : Nat) (ha : a < 256) (hb : b < 256) (hab : a ≤ b) (S : List Nat) (t : List UInt8) : braL (f + 1) fst (bl (hxT a ++ 45 :: (hxT b ++ t))) S = braL f false (bl t) (spanS S a (b + 1 - a)) := by
  rw [braL, if_pos (.inr (by rw [hx_head, nextB_cons]; decide)), let_hx a ha]
  dsimp only
  rw [if_pos (isB_yes (by decide)), bl_tail, let_hx b hb]
  dsimp only
  rw [if_neg (by omega)]
theorem bra_end (f : Nat) (S : List Nat) (t : List UInt8) : braL (f + 1) false (bl (93 :: t)) S = some (S, bl (93 :: t)) := by
  rw [braL, if_neg (by rw [nextB_cons]; decide)]
theorem atom_bra_yes (R : ByteArray → Option (Nd × ByteArray)) (t r : List UInt8) (S : List Nat) (h : ∀ f, 3 ≤ f → braL f true (bl t) noSet = some (S, bl (93 :: r))) (h3 : 3 ≤ t.length) (c : UInt8) (u : List UInt8) (ht : t = c :: u) (hc : c.toNat ≠ 94) : atomE R (bl (91 :: t)) = some (.mk 1 S [], bl r) := by
  unfold atomE
  rw [tk_cons]
  dsimp only
  rw [if_neg (by decide), if_pos (by decide)]
  unfold braE
  rw [show skipS (bl t) 94 = bl t by rw [ht]; exact skip_no hc, h _ (by rw [bl_size]; omega)]
  dsimp only
  rw [if_neg (by rw [ht, isB_no hc]; decide), bl_tail]
  rfl
theorem atom_bra_not (R : ByteArray → Option (Nd × ByteArray)) (t r : List UInt8) (S : List Nat) (h : ∀ f, 3 ≤ f → braL f true (bl t) noSet = some (S, bl (93 :: r))) (h3 : 3 ≤ t.length) : atomE R (bl (91 :: 94 :: t)) = some (.mk 1 (cmpJ S 4) [], bl r) := by
  unfold atomE
  rw [tk_cons]
  dsimp only
  rw [if_neg (by decide), if_pos (by decide)]
  unfold braE
  rw [skip_yes (by decide), h _ (by rw [bl_size]; omega)]
  dsimp only
  rw [if_pos (isB_yes (by decide)), bl_tail]
theorem brh : ∀ t : List UInt8, HeadOk (91 :: t) := fun t => ⟨91, t, rfl, by decide, by decide, by decide, by decide, by decide, by decide⟩
theorem parse_two (a b : Nat) (ha : a < 256) (hb : b < 256) : parseP (bl (91 :: (hxT a ++ (hxT b ++ [93])))) = (.mk 1 (spanS (spanS noSet a 1) b 1) [], 0) := by
  refine parse_atom (fun R r => ?_) (brh _) (by simp [hxT])
  rw [show 91 :: (hxT a ++ (hxT b ++ [93])) ++ r = 91 :: (hxT a ++ (hxT b ++ 93 :: r)) by simp]
  refine atom_bra_yes R _ r _ (fun f hf => ?_) (by simp [hxT]) 92 _ rfl (by decide)
  obtain ⟨f, rfl⟩ : ∃ g, f = g + 3 := ⟨f - 3, by omega⟩
  rw [hx_head b, bra_one _ _ a ha _ 92 _ (by decide), ← hx_head b, bra_one _ _ b hb _ 93 _ (by decide), bra_end]
theorem parse_all2 (a b : Nat) (ha : a < 256) (hb : b < 256) (hab : a ≤ b) : parseP (bl (91 :: (hxT a ++ 45 :: (hxT b ++ [93])))) = (.mk 1 (spanS noSet a (b + 1 - a)) [], 0) := by
  refine parse_atom (fun R r => ?_) (brh _) (by simp [hxT])
  rw [show 91 :: (hxT a ++ 45 :: (hxT b ++ [93])) ++ r = 91 :: (hxT a ++ 45 :: (hxT b ++ 93 :: r)) by simp]
  refine atom_bra_yes R _ r _ (fun f hf => ?_) (by simp [hxT]) 92 _ rfl (by decide)
  obtain ⟨f, rfl⟩ : ∃ g, f = g + 3 := ⟨f - 3, by omega⟩
  rw [bra_two _ _ a b ha hb hab, bra_end]
theorem parse_not (a b : Nat) (ha : a < 256) (hb : b < 256) (hab : a ≤ b) : parseP (bl (91 :: 94 :: (hxT a ++ 45 :: (hxT b ++ [93])))) = (.mk 1 (cmpJ (spanS noSet a (b + 1 - a)) 4) [], 0) := by
  refine parse_atom (fun R r => ?_) (brh _) (by simp [hxT])
  rw [show 91 :: 94 :: (hxT a ++ 45 :: (hxT b ++ [93])) ++ r = 91 :: 94 :: (hxT a ++ 45 :: (hxT b ++ 93 :: r)) by simp]
  refine atom_bra_not R _ r _ (fun f hf => ?_) (by simp [hxT])
  obtain ⟨f, rfl⟩ : ∃ g, f = g + 3 := ⟨f - 3, by omega⟩
  rw [bra_two _ _ a b ha hb hab, bra_end]
theorem has_one (a c : Nat) (ha : a < 256) (hc : c < 256) : hasS (spanS noSet a 1) c = decide (c = a) := by
  rw [hasS_span rfl a 1 (by omega) c hc, hasS_no, Bool.false_or, Bool.eq_iff_iff]
  simp; omega
theorem has_two (a b c : Nat) (ha : a < 256) (hb : b < 256) (hc : c < 256) : hasS (spanS (spanS noSet a 1) b 1) c = (decide (c = a) || decide (c = b)) := by
  rw [hasS_span (by rw [spanS_len]; rfl) b 1 (by omega) c hc, has_one a c ha hc]
  congr 1
  rw [Bool.eq_iff_iff]
  simp; omega
theorem has_all (a b c : Nat) (hb : b < 256) (hab : a ≤ b) (hc : c < 256) : hasS (spanS noSet a (b + 1 - a)) c = (decide (a ≤ c) && decide (c ≤ b)) := by
  rw [hasS_span rfl a _ (by omega) c hc, hasS_no, Bool.false_or]
  congr 1
  rw [decide_eq_decide]; omega
theorem hasS_cmp {S : List Nat} (hS : W64 S) (c : Nat) (hc : c < 256) : hasS (cmpJ S 4) c = !hasS S c := by
  obtain ⟨x0, x1, x2, x3, rfl⟩ := four hS.1
  have e : cmpJ [x0, x1, x2, x3] 4 = [18446744073709551615 - x0, 18446744073709551615 - x1, 18446744073709551615 - x2, 18446744073709551615 - x3] := rfl
  rw [e]
  have hb := hS.2
  have key : ∀ x r, x < 18446744073709551616 → r < 64 → (18446744073709551615 - x).testBit r = !x.testBit r := fun x r hx hr => by
    have := Nat.testBit_two_pow_sub_succ (x := x) (n := 64) (by simpa using hx) r
    rw [show (2 : Nat) ^ 64 - (x + 1) = 18446744073709551615 - x by omega] at this
    rw [this, decide_eq_true hr, Bool.true_and]
  unfold hasS
  have hq : c / 64 = 0 ∨ c / 64 = 1 ∨ c / 64 = 2 ∨ c / 64 = 3 := by omega
  have hr : c % 64 < 64 := by omega
  rcases hq with q | q | q | q <;> rw [q]
  · exact key x0 _ (hb x0 (by simp)) hr
  · exact key x1 _ (hb x1 (by simp)) hr
  · exact key x2 _ (hb x2 (by simp)) hr
  · exact key x3 _ (hb x3 (by simp)) hr
end Go.Proofs.YtfamoikmfbpigaaDoor
