/- Plain laws of the pieces ahead of a place and behind it. -/
import Derived.Test.YtmllbaacjodccaaQcut
namespace Go.Proofs.Ytmllbaacjodccaa
open Go.RowKit
variable {R : Nat → Prop}

/-- All bytes of some pieces, as a list. -/
def jl (zs : List ByteArray) : List UInt8 := zs.flatMap fun z => z.data.toList
theorem jl_nil : jl [] = [] := rfl
theorem jl_cons (z : ByteArray) (r : List ByteArray) : jl (z :: r) = z.data.toList ++ jl r := rfl
theorem jl_append (a b : List ByteArray) : jl (a ++ b) = jl a ++ jl b := by simp [jl]
theorem jl_one (s : ByteArray) : jl (onePiece s) = s.data.toList := by
  unfold onePiece
  split
  · rename_i h
    have : s.data.toList.length = 0 := h
    rw [List.length_eq_zero_iff.1 this]; rfl
  · simp [jl]
theorem jl_length (zs : List ByteArray) : (jl zs).length = total zs := by
  have := joined_size zs
  unfold joined ByteArray.size at this
  simpa [jl] using this
theorem joined_jl {zs : List ByteArray} {s : ByteArray} (h : jl zs = s.data.toList) : joined zs = s := by
  cases s with | mk d => simp only [joined]; rw [show (zs.flatMap fun z => z.data.toList) = d.toList from h]
theorem ext_list (z : ByteArray) (a b : Nat) : (z.extract a b).data.toList = (z.data.toList.take b).drop a := by
  rw [ByteArray.data_extract, Array.toList_extract, List.extract_eq_take_drop, List.drop_take]
theorem jl_cutA : ∀ (zs : List ByteArray) (a : Nat), jl (cutA zs a) = (jl zs).take a
  | [], a => by simp [cutA, jl]
  | z :: r, a => by
    have hs : z.data.toList.length = z.size := rfl
    unfold cutA
    by_cases h : a < z.size
    · rw [if_pos h, jl_one, jl_cons, ext_list, List.drop_zero, List.take_append_of_le_length (by omega)]
    · rw [if_neg h, jl_cons, jl_cons, jl_cutA r, List.take_append, hs, show z.data.toList.take a = z.data.toList from List.take_of_length_le (by omega)]
theorem jl_cutB : ∀ (zs : List ByteArray) (a : Nat), jl (cutB zs a) = (jl zs).drop a
  | [], a => by simp [cutB, jl]
  | z :: r, a => by
    have hs : z.data.toList.length = z.size := rfl
    unfold cutB
    by_cases h : a < z.size
    · rw [if_pos h, jl_cons, jl_cons, ext_list, List.drop_append_of_le_length (by omega), List.take_of_length_le (by omega)]
    · rw [if_neg h, jl_cons, jl_cutB r, List.drop_append, hs, show z.data.toList.drop a = [] from List.drop_of_length_le (by omega), List.nil_append]
theorem len_cutA : ∀ (zs : List ByteArray) (a : Nat), (cutA zs a).length ≤ zs.length
  | [], a => by simp [cutA]
  | z :: r, a => by
    unfold cutA
    split
    · have : (onePiece (z.extract 0 a)).length ≤ 1 := by unfold onePiece; split <;> simp
      simp; omega
    · have := len_cutA r (a - z.size)
      simp; omega
theorem len_cutB : ∀ (zs : List ByteArray) (a : Nat), (cutB zs a).length ≤ zs.length
  | [], a => by simp [cutB]
  | z :: r, a => by
    unfold cutB
    split
    · simp
    · have := len_cutB r (a - z.size)
      simp; omega
def insP (zs : List ByteArray) (a : Nat) (s : ByteArray) : List ByteArray := (cutA zs a ++ onePiece s) ++ cutB zs a
def delP (zs : List ByteArray) (a b : Nat) : List ByteArray := cutA zs a ++ cutB (cutB zs a) (b - a)
def sliceP (zs : List ByteArray) (a b : Nat) : List ByteArray := cutA (cutB zs a) (b - a)
theorem jl_ins (zs : List ByteArray) (a : Nat) (s : ByteArray) : jl (insP zs a s) = (jl zs).take a ++ s.data.toList ++ (jl zs).drop a := by rw [insP, jl_append, jl_append, jl_one, jl_cutA, jl_cutB]
theorem jl_del (zs : List ByteArray) (a b : Nat) : jl (delP zs a b) = (jl zs).take a ++ ((jl zs).drop a).drop (b - a) := by rw [delP, jl_append, jl_cutA, jl_cutB, jl_cutB]
theorem jl_slice (zs : List ByteArray) (a b : Nat) : jl (sliceP zs a b) = ((jl zs).drop a).take (b - a) := by rw [sliceP, jl_cutA, jl_cutB]
theorem total_ins (zs : List ByteArray) (a : Nat) (s : ByteArray) : total (insP zs a s) = total zs + s.size := by
  rw [← jl_length, jl_ins, ← jl_length]
  have hs : s.data.toList.length = s.size := rfl
  simp only [List.length_append, List.length_take, List.length_drop, hs]
  omega
theorem total_del (zs : List ByteArray) (a b : Nat) (h1 : a ≤ b) (h2 : b ≤ total zs) : total (delP zs a b) = total zs - (b - a) := by
  rw [← jl_length, jl_del]
  have := jl_length zs
  simp only [List.length_append, List.length_take, List.length_drop]
  omega
theorem one_le (s : ByteArray) : (onePiece s).length ≤ 1 := by unfold onePiece; split <;> simp
theorem len_ins (zs : List ByteArray) (a : Nat) (s : ByteArray) : (insP zs a s).length ≤ 2 * zs.length + 1 := by
  have h1 := len_cutA zs a
  have h2 := len_cutB zs a
  have h3 := one_le s
  simp only [insP, List.length_append]; omega
theorem len_del (zs : List ByteArray) (a b : Nat) : (delP zs a b).length ≤ 2 * zs.length := by
  have h1 := len_cutA zs a
  have h2 := len_cutB zs a
  have h3 := len_cutB (cutB zs a) (b - a)
  simp only [delP, List.length_append]; omega
theorem clip_app {W : World} {B : Nat} {A : Option Addr} {n c : Nat} {zs : List ByteArray} (bs : List ByteArray) (h : Strs R W (.slice A n c) zs) : App R W B (.slice A zs.length zs.length) zs bs := by
  cases bs with
  | nil => exact (end_app h).2
  | cons x r => exact full_app x r h
end Go.Proofs.Ytmllbaacjodccaa
