/- The parser over lists of bytes; a byte that is shown is read. Plain. -/
import Derived.Test.YtfamoikmfbpigaaDoorEparse
import Derived.Test.YtfamoikmfbpigaaDoorFruns
namespace Go.Proofs.YtfamoikmfbpigaaDoor
open Go.RowKit

abbrev bl (l : List UInt8) : ByteArray := ⟨l.toArray⟩
theorem bl_size (l : List UInt8) : (bl l).size = l.length := rfl
theorem bl_tail (b : UInt8) (l : List UInt8) : (bl (b :: l)).extract 1 (bl (b :: l)).size = bl l := by
  apply ByteArray.ext
  rw [ByteArray.data_extract, bl_size]
  show (b :: l).toArray.extract 1 (l.length + 1) = l.toArray
  simp
theorem tk_cons (b : UInt8) (l : List UInt8) : tk (bl (b :: l)) = some (b.toNat, bl l) := by
  unfold tk
  rw [dif_pos (by rw [bl_size]; simp), bl_tail]
  rfl
theorem tk_nil : tk (bl []) = none := rfl
theorem nextB_cons (b : UInt8) (l : List UInt8) : nextB (bl (b :: l)) = b.toNat := by
  unfold nextB
  rw [dif_pos (by rw [bl_size]; simp)]
  rfl
theorem nextB_nil : nextB (bl []) = 0 := rfl
theorem isB_cons (b : UInt8) (l : List UInt8) (c : Nat) : isB (bl (b :: l)) c = (b.toNat == c) := by
  unfold isB
  rw [dif_pos (by rw [bl_size]; simp)]
  rfl
theorem isB_nil (c : Nat) : isB (bl []) c = false := rfl
theorem isB_yes {b : UInt8} {l : List UInt8} {c : Nat} (h : b.toNat = c) : isB (bl (b :: l)) c = true := by rw [isB_cons, h]; simp
theorem isB_no {b : UInt8} {l : List UInt8} {c : Nat} (h : b.toNat ≠ c) : isB (bl (b :: l)) c = false := by rw [isB_cons]; simp [h]
theorem skip_yes {b : UInt8} {l : List UInt8} {c : Nat} (h : b.toNat = c) : skipS (bl (b :: l)) c = bl l := by
  unfold skipS
  rw [if_pos (isB_yes h), bl_tail]
theorem skip_no {b : UInt8} {l : List UInt8} {c : Nat} (h : b.toNat ≠ c) : skipS (bl (b :: l)) c = bl (b :: l) := by
  unfold skipS
  rw [if_neg (by rw [isB_no h]; decide)]
/-- What is escaped: one byte. -/
theorem esc_one (c : UInt8) (r : List UInt8) : escE (bl (c :: r)) = if c.toNat = 110 then some (10, bl r) else if c.toNat = 116 then some (9, bl r) else if c.toNat = 114 then some (13, bl r)
    else if c.toNat = 120 then (match tk (bl r) with | none => none | some (x, s2) => match digE x with | none => none | some h => match tk s2 with | none => none | some (y, s3) => match digE y with | none => none | some l => some (h * 16 + l, s3))
    else if specE c.toNat = true then some (c.toNat, bl r) else none := by
  unfold escE
  rw [tk_cons]
  rfl
theorem dig_hex : ∀ h, h < 16 → digE (hexB h).toNat = some h := by decide +kernel
theorem esc_hex (h l : Nat) (hh : h < 16) (hl : l < 16) (r : List UInt8) : escE (bl (120 :: hexB h :: hexB l :: r)) = some (h * 16 + l, bl r) := by
  rw [esc_one, if_neg (by decide), if_neg (by decide), if_neg (by decide), if_pos (by decide), tk_cons]
  dsimp only
  rw [dig_hex h hh]
  dsimp only
  rw [tk_cons]
  dsimp only
  rw [dig_hex l hl]
theorem spec_tab : ∀ b, b < 256 → specE b = true → b ≠ 110 ∧ b ≠ 116 ∧ b ≠ 114 ∧ b ≠ 120 ∧ 32 < b ∧ b < 127 := by decide +kernel
theorem spec_all : ∀ c ∈ [40, 41, 91, 93, 124, 42, 43, 63, 46, 92, 45, 94], specE c = true := by decide +kernel
theorem spec_no_tab (b : Nat) (_ : b < 256) (h : specE b = false) : b ≠ 40 ∧ b ≠ 41 ∧ b ≠ 91 ∧ b ≠ 93 ∧ b ≠ 124 ∧ b ≠ 42 ∧ b ≠ 43 ∧ b ≠ 63 ∧ b ≠ 46 ∧ b ≠ 92 ∧ b ≠ 45 ∧ b ≠ 94 := by
  refine ⟨?_, ?_, ?_, ?_, ?_, ?_, ?_, ?_, ?_, ?_, ?_, ?_⟩ <;> (intro e; have := spec_all b (by rw [e]; decide); rw [h] at this; cases this)
theorem ofNat_to {b : Nat} (hb : b < 256) : (UInt8.ofNat b).toNat = b := by simp; omega
/-- A byte, as it is shown: one that stands for itself, or one that is escaped. -/
theorem shown_ways (b : Nat) (hb : b < 256) : (specE b = false ∧ shownE b = [UInt8.ofNat b]) ∨ ∃ t, shownE b = 92 :: t ∧ ∀ r, escE (bl (t ++ r)) = some (b, bl r) := by
  unfold shownE
  by_cases h10 : b = 10
  · subst h10; exact .inr ⟨[110], by rw [if_pos rfl], fun r => by rw [List.cons_append, esc_one, if_pos (by decide)]; rfl⟩
  rw [if_neg h10]
  by_cases h9 : b = 9
  · subst h9; exact .inr ⟨[116], by rw [if_pos rfl], fun r => by rw [List.cons_append, esc_one, if_neg (by decide), if_pos (by decide)]; rfl⟩
  rw [if_neg h9]
  by_cases h13 : b = 13
  · subst h13; exact .inr ⟨[114], by rw [if_pos rfl], fun r => by rw [List.cons_append, esc_one, if_neg (by decide), if_neg (by decide), if_pos (by decide)]; rfl⟩
  rw [if_neg h13]
  cases hs : specE b with
  | true =>
    refine .inr ⟨[UInt8.ofNat b], by rw [if_pos rfl], fun r => ?_⟩
    obtain ⟨n1, n2, n3, n4, -⟩ := spec_tab b hb hs
    rw [List.cons_append, esc_one, ofNat_to hb, if_neg n1, if_neg n2, if_neg n3, if_neg n4, if_pos hs]; rfl
  | false =>
    rw [if_neg (by decide)]
    by_cases hp : 32 < b ∧ b < 127
    · rw [if_pos hp]; exact .inl ⟨rfl, rfl⟩
    · rw [if_neg hp]
      refine .inr ⟨_, rfl, fun r => ?_⟩
      rw [List.cons_append, List.cons_append, List.cons_append, esc_hex _ _ (by omega) (by omega)]
      rw [show b / 16 * 16 + b % 16 = b by omega]; rfl
theorem let_shown (b : Nat) (hb : b < 256) (r : List UInt8) : letE (bl (shownE b ++ r)) = some (b, bl r) := by
  unfold letE
  rcases shown_ways b hb with ⟨hs, e⟩ | ⟨t, e, h⟩
  · rw [e, List.cons_append, tk_cons, ofNat_to hb]
    dsimp only
    rw [if_neg (spec_no_tab b hb hs).2.2.2.2.2.2.2.2.2.1, if_neg (by rw [hs]; decide)]; rfl
  · rw [e, List.cons_append, tk_cons]
    dsimp only
    rw [if_pos (by decide), h r]
/-- How what is shown begins. -/
def headOk (c : UInt8) : Prop := c.toNat ≠ 41 ∧ c.toNat ≠ 93 ∧ c.toNat ≠ 124 ∧ c.toNat ≠ 42 ∧ c.toNat ≠ 43 ∧ c.toNat ≠ 63
theorem shown_head (b : Nat) (hb : b < 256) : ∃ c t, shownE b = c :: t ∧ headOk c ∧ c.toNat ≠ 94 ∧ c.toNat ≠ 45 := by
  rcases shown_ways b hb with ⟨hs, e⟩ | ⟨t, e, -⟩
  · obtain ⟨h1, h2, h3, h4, h5, h6, h7, h8, h9, h10, h11, h12⟩ := spec_no_tab b hb hs
    refine ⟨_, _, e, ⟨?_, ?_, ?_, ?_, ?_, ?_⟩, ?_, ?_⟩ <;> rw [ofNat_to hb] <;> assumption
  · exact ⟨_, _, e, ⟨by decide, by decide, by decide, by decide, by decide, by decide⟩, by decide, by decide⟩
theorem atom_shown (R : ByteArray → Option (Nd × ByteArray)) (b : Nat) (hb : b < 256) (r : List UInt8) : atomE R (bl (shownE b ++ r)) = some (.mk 1 (spanS noSet b 1) [], bl r) := by
  unfold atomE
  rcases shown_ways b hb with ⟨hs, e⟩ | ⟨t, e, h⟩
  · obtain ⟨h1, h2, h3, h4, h5, h6, h7, h8, h9, h10, h11, h12⟩ := spec_no_tab b hb hs
    rw [e, List.cons_append, tk_cons, ofNat_to hb]
    dsimp only
    rw [if_neg h1, if_neg h3, if_neg h9, if_neg h10, if_neg (by omega)]; rfl
  · rw [e, List.cons_append, tk_cons]
    dsimp only
    rw [if_neg (by decide), if_neg (by decide), if_neg (by decide), if_pos (by decide), h r]
end Go.Proofs.YtfamoikmfbpigaaDoor
