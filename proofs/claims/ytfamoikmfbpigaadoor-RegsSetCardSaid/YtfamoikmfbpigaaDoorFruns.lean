/- A set as a text: its runs. Plain. -/
import Derived.Test.YtfamoikmfbpigaaDoorFshown
import Derived.Lib.Join
namespace Go.Proofs.YtfamoikmfbpigaaDoor
open Go.RowKit

def endR (S : List Nat) : Nat → Nat → Nat
  | 0, b => b
  | f + 1, b => if b < 255 ∧ hasS S (b + 1) = true then endR S f (b + 1) else b
/-- Where the run that has a byte ends. -/
def enR (S : List Nat) (b : Nat) : Nat := endR S (255 - b) b
theorem enR_go {S : List Nat} {b : Nat} (h : b < 255) (h2 : hasS S (b + 1) = true) : enR S b = enR S (b + 1) := by
  unfold enR
  rw [show 255 - b = (255 - (b + 1)) + 1 by omega, endR, if_pos ⟨h, h2⟩]
theorem enR_last {S : List Nat} {b : Nat} (h : ¬ b < 255) : enR S b = b := by
  unfold enR
  rw [show 255 - b = 0 by omega]; rfl
theorem enR_no {S : List Nat} {b : Nat} (h2 : hasS S (b + 1) = false) : enR S b = b := by
  unfold enR
  cases e : 255 - b with
  | zero => rfl
  | succ f => rw [endR, if_neg (by rw [h2]; simp)]
theorem endR_bd (S : List Nat) : ∀ (f b : Nat), b ≤ 255 → b ≤ endR S f b ∧ endR S f b ≤ 255
  | 0, b, h => ⟨Nat.le_refl _, h⟩
  | f + 1, b, h => by
    rw [endR]
    split
    · rename_i h1
      have := endR_bd S f (b + 1) (by omega)
      omega
    · exact ⟨Nat.le_refl _, h⟩
theorem enR_bd (S : List Nat) {b : Nat} (h : b ≤ 255) : b ≤ enR S b ∧ enR S b ≤ 255 := endR_bd S _ b h
def scanR (S : List Nat) : Nat → Nat → List (Nat × Nat)
  | 0, _ => []
  | f + 1, b => if b < 256 then (if hasS S b = true then (b, enR S b) :: scanR S f (enR S b + 1) else scanR S f (b + 1)) else []
theorem scanR_out (S : List Nat) (f b : Nat) (h : ¬ b < 256) : scanR S f b = [] := by
  cases f with
  | zero => rfl
  | succ f => rw [scanR, if_neg h]
theorem scanR_fuel (S : List Nat) : ∀ (f g b : Nat), 256 - b ≤ f → 256 - b ≤ g → scanR S f b = scanR S g b
  | 0, g, b, h, _ => by rw [scanR_out S 0 b (by omega), scanR_out S g b (by omega)]
  | f + 1, 0, b, _, h => by rw [scanR_out S _ b (by omega), scanR_out S _ b (by omega)]
  | f + 1, g + 1, b, h1, h2 => by
    rw [scanR, scanR]
    split
    · rename_i hb
      have := enR_bd S (b := b) (by omega)
      rw [scanR_fuel S f g (enR S b + 1) (by omega) (by omega), scanR_fuel S f g (b + 1) (by omega) (by omega)]
    · rfl
/-- The runs from a byte on. -/
def scR (S : List Nat) (b : Nat) : List (Nat × Nat) := scanR S (256 - b) b
theorem scR_yes {S : List Nat} {b : Nat} (h : b < 256) (h2 : hasS S b = true) : scR S b = (b, enR S b) :: scR S (enR S b + 1) := by
  unfold scR
  have := enR_bd S (b := b) (by omega)
  rw [show 256 - b = (255 - b) + 1 by omega, scanR, if_pos h, if_pos h2, scanR_fuel S (255 - b) (256 - (enR S b + 1)) _ (by omega) (by omega)]
theorem scR_no {S : List Nat} {b : Nat} (h : b < 256) (h2 : hasS S b = false) : scR S b = scR S (b + 1) := by
  unfold scR
  rw [show 256 - b = (256 - (b + 1)) + 1 by omega, scanR, if_pos h, if_neg (by rw [h2]; decide)]
theorem scR_out {S : List Nat} {b : Nat} (h : ¬ b < 256) : scR S b = [] := scanR_out S _ b h
def spanT (p : Nat × Nat) : List UInt8 := shownE p.1 ++ (if p.1 < p.2 then 45 :: shownE p.2 else [])
def manyR (l : List (Nat × Nat)) : Nat := (l.map fun p => p.2 - p.1 + 1).sum
def noneT : List UInt8 := [91, 94, 92, 120, 48, 48, 45, 92, 120, 102, 102, 93]
/-- A set, as it is shown. -/
def spansE (S : List Nat) : List UInt8 :=
  if manyR (scR S 0) = 0 then noneT else if manyR (scR S 0) = 1 then (scR S 0).flatMap spanT else 91 :: ((scR S 0).flatMap spanT ++ [93])
theorem manyR_app (l m : List (Nat × Nat)) : manyR (l ++ m) = manyR l + manyR m := by simp [manyR]
theorem manyR_len (l : List (Nat × Nat)) : l.length ≤ manyR l := by
  induction l with
  | nil => simp [manyR]
  | cons p l ih => simp only [manyR, List.map_cons, List.sum_cons, List.length_cons] at *; omega
theorem shownE_len (b : Nat) : (shownE b).length ≤ 4 := by
  unfold shownE
  repeat' split
  all_goals simp
theorem spanT_len (p : Nat × Nat) : (spanT p).length ≤ 9 := by
  unfold spanT
  have h1 := shownE_len p.1
  have h2 := shownE_len p.2
  rw [List.length_append]
  split
  · simp; omega
  · simp; omega
theorem flat_len (l : List (Nat × Nat)) : (l.flatMap spanT).length ≤ 9 * l.length := by
  induction l with
  | nil => simp
  | cons p l ih =>
    have := spanT_len p
    rw [List.flatMap_cons, List.length_append, List.length_cons]; omega
theorem join_flat (l : List (List UInt8)) : Go.Lib.join l [] = l.flatten := by
  cases l with
  | nil => rfl
  | cons x r => rw [Go.Lib.join_cons]; simp [Go.Lib.joinTail]
theorem toArr_app (a b : List UInt8) : (⟨a.toArray⟩ ++ ⟨b.toArray⟩ : ByteArray) = ⟨(a ++ b).toArray⟩ := by
  apply ByteArray.ext
  simp [ByteArray.data_append]
end Go.Proofs.YtfamoikmfbpigaaDoor
