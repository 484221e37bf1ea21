/- Plain: what is kept of a paste, rune by rune. No program in sight. -/
import Derived.Test.YtiilgeinkocanaaDoorKplain3
namespace Go.Proofs.YtiilgeinkocanaaDoor

/-- What is kept of the rune at a place. -/
def cleanAt (s : ByteArray) (pos : Nat) : ByteArray := if (dec3 s pos).2.2 = true then cleanR (Utf8.decode s pos).1 else ⟨#[]⟩
theorem ap_nilB (a : ByteArray) : a ++ (⟨#[]⟩ : ByteArray) = a := by apply ByteArray.ext; simp
theorem nil_apB (a : ByteArray) : (⟨#[]⟩ : ByteArray) ++ a = a := by apply ByteArray.ext; simp
theorem ap_assocB (a b c : ByteArray) : a ++ b ++ c = a ++ (b ++ c) := by apply ByteArray.ext; simp [Array.append_assoc]
theorem cleanFrom_end {s : ByteArray} {f pos : Nat} (h : ¬ pos < s.size) : cleanFrom s f pos = ⟨#[]⟩ := by
  cases f with
  | zero => rfl
  | succ f => unfold cleanFrom; rw [if_neg h]
theorem cleanFrom_go {s : ByteArray} {f pos : Nat} (h : pos < s.size) : cleanFrom s (f + 1) pos = cleanAt s pos ++ cleanFrom s f (pos + (Utf8.decode s pos).2) := by
  rw [cleanFrom, if_pos h]; rfl
theorem clean_step {s : ByteArray} {f pos : Nat} {acc T : ByteArray} (hp : pos < s.size) (h : acc ++ cleanFrom s f pos = T) (hf : s.size ≤ pos + f) : acc ++ cleanAt s pos ++ cleanFrom s (f - 1) (pos + (Utf8.decode s pos).2) = T := by
  obtain ⟨g, rfl⟩ : ∃ g, f = g + 1 := ⟨f - 1, by omega⟩
  rw [cleanFrom_go hp] at h
  rw [ap_assocB, Nat.add_sub_cancel]
  exact h
theorem clean_done {s : ByteArray} {f pos : Nat} {acc : ByteArray} (hp : ¬ pos < s.size) (h : acc ++ cleanFrom s f pos = cleanK s) : acc = cleanK s := by
  rw [cleanFrom_end hp, ap_nilB] at h
  exact h
theorem cleanAt_no {s : ByteArray} {pos : Nat} (h : (dec3 s pos).2.2 = false) : cleanAt s pos = ⟨#[]⟩ := by unfold cleanAt; rw [if_neg (by rw [h]; simp)]
theorem cleanAt_cr {s : ByteArray} {pos : Nat} (h : (dec3 s pos).2.2 = true) (hr : ((Utf8.decode s pos).1 : Int) = 13) : cleanAt s pos = ⟨#[10]⟩ := by unfold cleanAt; rw [if_pos h]; unfold cleanR; rw [if_pos hr]
theorem cleanAt_put {s : ByteArray} {pos : Nat} (h : (dec3 s pos).2.2 = true) (hr : ¬ ((Utf8.decode s pos).1 : Int) = 13) (hk : ((Utf8.decode s pos).1 : Int) = 10 ∨ ((Utf8.decode s pos).1 : Int) = 9 ∨ 0 < cells (Utf8.decode s pos).1) : cleanAt s pos = putS (Utf8.decode s pos).1 := by
  unfold cleanAt; rw [if_pos h]; unfold cleanR; rw [if_neg hr, if_pos hk]
theorem cleanAt_none {s : ByteArray} {pos : Nat} (h : (dec3 s pos).2.2 = true) (hr : ¬ ((Utf8.decode s pos).1 : Int) = 13) (hk : ¬ (((Utf8.decode s pos).1 : Int) = 10 ∨ ((Utf8.decode s pos).1 : Int) = 9 ∨ 0 < cells (Utf8.decode s pos).1)) : cleanAt s pos = ⟨#[]⟩ := by
  unfold cleanAt; rw [if_pos h]; unfold cleanR; rw [if_neg hr, if_neg hk]
/-- The same, over the places where runes begin. -/
def cleanL (s : ByteArray) : List Nat → ByteArray
  | [] => ⟨#[]⟩
  | k :: l => cleanAt s k ++ cleanL s l
theorem cleanL_app (s : ByteArray) (l m : List Nat) : cleanL s (l ++ m) = cleanL s l ++ cleanL s m := by
  induction l with
  | nil => rw [List.nil_append, cleanL, nil_apB]
  | cons k l ih => rw [List.cons_append, cleanL, cleanL, ih, ap_assocB]
theorem cleanL_snoc {s : ByteArray} {L : List Nat} {j k : Nat} (h : L[j]? = some k) : cleanL s (L.take (j + 1)) = cleanL s (L.take j) ++ cleanAt s k := by
  rw [List.take_add_one, h, cleanL_app]
  show _ ++ cleanL s [k] = _
  rw [cleanL, cleanL, ap_nilB]
end Go.Proofs.YtiilgeinkocanaaDoor
