/- Plain: how many pieces there are; none is empty; line feeds; the document's answers. -/
import Derived.Test.YtmllbaacjodccaaQplain
namespace Go.Proofs.Ytmllbaacjodccaa
open Go.RowKit

theorem len_cuts : ∀ (zs : List ByteArray) (a : Nat), (cutA zs a).length + (cutB zs a).length ≤ zs.length + 1
  | [], a => by simp [cutA, cutB]
  | z :: r, a => by
    unfold cutA cutB
    by_cases h : a < z.size
    · rw [if_pos h, if_pos h]
      have := one_le (z.extract 0 a)
      simp only [List.length_cons]
      omega
    · rw [if_neg h, if_neg h]
      have := len_cuts r (a - z.size)
      simp only [List.length_cons]
      omega
theorem len_ins2 (zs : List ByteArray) (a : Nat) (s : ByteArray) : (insP zs a s).length ≤ zs.length + 2 := by
  have h1 := len_cuts zs a
  have h2 := one_le s
  unfold insP
  simp only [List.length_append]
  omega
theorem len_del2 (zs : List ByteArray) (a b : Nat) : (delP zs a b).length ≤ zs.length + 1 := by
  have h1 := len_cuts zs a
  have h2 := len_cutB (cutB zs a) (b - a)
  unfold delP
  simp only [List.length_append]
  omega
/-- No piece is empty. -/
def Full (zs : List ByteArray) : Prop := ∀ z ∈ zs, 0 < z.size
theorem full_one (s : ByteArray) : Full (onePiece s) := by
  intro z hz
  unfold onePiece at hz
  split at hz
  · cases hz
  · rw [List.mem_singleton.1 hz]; omega
theorem full_arr {a b : List ByteArray} (ha : Full a) (hb : Full b) : Full (a ++ b) := fun z hz => (List.mem_append.1 hz).elim (ha z) (hb z)
theorem full_cutA : ∀ (zs : List ByteArray) (a : Nat), Full zs → Full (cutA zs a)
  | [], _, h => by simpa [cutA] using h
  | z :: r, a, h => by
    unfold cutA
    split
    · exact full_one _
    · intro y hy
      rcases List.mem_cons.1 hy with rfl | hy
      · exact h _ List.mem_cons_self
      · exact full_cutA r _ (fun x hx => h x (List.mem_cons_of_mem _ hx)) y hy
theorem full_cutB : ∀ (zs : List ByteArray) (a : Nat), Full zs → Full (cutB zs a)
  | [], _, h => by simpa [cutB] using h
  | z :: r, a, h => by
    unfold cutB
    split
    · rename_i hlt
      intro y hy
      rcases List.mem_cons.1 hy with rfl | hy
      · rw [ByteArray.size_extract]; omega
      · exact h y (List.mem_cons_of_mem _ hy)
    · exact full_cutB r _ (fun x hx => h x (List.mem_cons_of_mem _ hx))
theorem full_ins {zs : List ByteArray} (a : Nat) (s : ByteArray) (h : Full zs) : Full (insP zs a s) := full_arr (full_arr (full_cutA zs a h) (full_one s)) (full_cutB zs a h)
theorem full_del {zs : List ByteArray} (a b : Nat) (h : Full zs) : Full (delP zs a b) := full_arr (full_cutA zs a h) (full_cutB _ _ (full_cutB zs a h))
theorem full_len : ∀ {zs : List ByteArray}, Full zs → zs.length ≤ total zs
  | [], _ => Nat.zero_le _
  | z :: r, h => by
    have h1 := h z List.mem_cons_self
    have h2 := full_len (zs := r) (fun x hx => h x (List.mem_cons_of_mem _ hx))
    unfold total at *
    simp only [List.length_cons, List.map_cons, List.sum_cons]
    omega
/-- Line feeds. -/
def lfs (l : List UInt8) : Nat := (l.filter (· == 10)).length
theorem lfs_app (a b : List UInt8) : lfs (a ++ b) = lfs a + lfs b := by simp [lfs]
theorem lfs_jl (zs : List ByteArray) : lfs (jl zs) = (zs.map fun z => lfs z.data.toList).sum := by
  induction zs with
  | nil => rfl
  | cons z r ih => unfold jl at *; simp only [List.flatMap_cons, List.map_cons, List.sum_cons]; rw [lfs_app, ih]
theorem lfs_le (l : List UInt8) : lfs l ≤ l.length := List.length_filter_le _ _
theorem lfs_take {s : ByteArray} {k : Nat} (h : k < s.size) : lfs (s.data.toList.take (k + 1)) = lfs (s.data.toList.take k) + if s[k] = 10 then 1 else 0 := by
  have e : s.data.toList.take (k + 1) = s.data.toList.take k ++ [s[k]] := by
    rw [List.take_succ_eq_append_getElem (by simpa using h)]; rfl
  rw [e, lfs_app]
  congr 1
  by_cases hc : s[k] = 10
  · rw [if_pos hc, hc]; rfl
  · rw [if_neg hc]; simp [lfs, hc]
/-- The document's answers. -/
def refIns (t : ByteArray) (a : Int) (s : ByteArray) : ByteArray × Int :=
  if a < 0 ∨ (t.size : Int) < a then (⟨#[]⟩, 2) else if 16384 < t.size + s.size then (⟨#[]⟩, 60) else (t.extract 0 a.toNat ++ s ++ t.extract a.toNat t.size, 0)
def refDel (t : ByteArray) (f g : Int) : ByteArray × Int :=
  if f < 0 ∨ (t.size : Int) < g ∨ g < f then (⟨#[]⟩, 2) else (t.extract 0 f.toNat ++ t.extract g.toNat t.size, 0)
def refSlice (t : ByteArray) (f g : Int) : ByteArray := if f < 0 ∨ (t.size : Int) < g ∨ g < f then ⟨#[]⟩ else t.extract f.toNat g.toNat
end Go.Proofs.Ytmllbaacjodccaa
