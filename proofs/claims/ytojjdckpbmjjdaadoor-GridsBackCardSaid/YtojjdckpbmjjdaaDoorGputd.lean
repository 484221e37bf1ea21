/- Plain: the document's steps of putting a rune into a row of a screen, one after the other. -/
import Derived.Test.YtojjdckpbmjjdaaDoorGmend
import Derived.Test.YtojjdckpbmjjdaaDoorGputf
namespace Go.Proofs.YtojjdckpbmjjdaaDoor

/-- The first j cells from s on are blanks. -/
def blTo (L : List Cl) (s : Nat) : Nat → List Cl
  | 0 => L
  | j + 1 => (blTo L s j).set (s + j) blankC
theorem bl_len (L : List Cl) (s : Nat) : ∀ j, (blTo L s j).length = L.length
  | 0 => rfl
  | j + 1 => by unfold blTo; rw [List.length_set, bl_len L s j]
theorem bl_row {L : List Cl} {R C k i : Nat} (hL : L.length = R * C) (hk : k < R) : ∀ m, i + m ≤ C → blTo L (k * C + i) m = replR L C k (blTo (rowL L C k) i m)
  | 0, _ => by unfold blTo; rw [replR_self hL hk]
  | m + 1, h => by
    unfold blTo
    rw [bl_row hL hk m (by omega), Nat.add_assoc, replR_set hL hk (by rw [bl_len]; exact rowL_len hL hk) (by omega)]
theorem mended_row {L l : List Cl} {R C k : Nat} (hL : L.length = R * C) (hk : k < R) (hl : l.length = C) : mended (replR L C k l) (k * C) C = replR L C k (mendL none l) := by
  have h2 : k * C + C = (k + 1) * C := by rw [Nat.add_mul, Nat.one_mul]
  have e : mended (replR L C k l) (k * C) C = replR (replR L C k l) C k (mendL none l) := by
    unfold mended
    rw [replR_part hL hk hl, h2]
    rfl
  rw [e, replR_repl hL hk hl]
theorem put_doc1 {L : List Cl} {R C k i : Nat} (hL : L.length = R * C) (hv : validL L R C = true) (hk : k < R) (hi : i + 1 ≤ C) (c : Cl) : (mended (blTo L (k * C + i) 1) (k * C) C).set (k * C + i) c = putL L (k * C + i) 1 c := by
  have hr : rowB (rowL L C k) = true := by unfold validL at hv; rw [List.all_eq_true] at hv; exact hv k (List.mem_range.2 hk)
  have hl := rowL_len hL hk
  rw [put_rows hL hv hk (.inl rfl) hi, ← putD_eq hr (.inl rfl) (by omega), bl_row hL hk 1 hi, mended_row hL hk (by rw [bl_len]; exact hl), replR_set hL hk (by rw [mend_len, bl_len]; exact hl) (by omega)]
  unfold putD
  rw [if_neg (by omega), blank_1]
  rfl
theorem put_doc2 {L : List Cl} {R C k i : Nat} (hL : L.length = R * C) (hv : validL L R C = true) (hk : k < R) (hi : i + 2 ≤ C) (c : Cl) : ((mended (blTo L (k * C + i) 2) (k * C) C).set (k * C + i) c).set (k * C + i + 1) (halfC c) = putL L (k * C + i) 2 c := by
  have hr : rowB (rowL L C k) = true := by unfold validL at hv; rw [List.all_eq_true] at hv; exact hv k (List.mem_range.2 hk)
  have hl := rowL_len hL hk
  rw [put_rows hL hv hk (.inr rfl) hi, ← putD_eq hr (.inr rfl) (by omega), bl_row hL hk 2 hi, mended_row hL hk (by rw [bl_len]; exact hl), replR_set hL hk (by rw [mend_len, bl_len]; exact hl) (by omega), Nat.add_assoc, replR_set hL hk (by rw [List.length_set, mend_len, bl_len]; exact hl) (by omega)]
  unfold putD
  rw [if_pos rfl, blank_2]
  rfl
end Go.Proofs.YtojjdckpbmjjdaaDoor
