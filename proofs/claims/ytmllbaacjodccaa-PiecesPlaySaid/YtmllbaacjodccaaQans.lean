/- What (*Text).Insert, Delete and Slice answer is the document's. -/
import Derived.Test.YtmllbaacjodccaaQstate
namespace Go.Proofs.Ytmllbaacjodccaa
open Go.RowKit
variable {R : Nat → Prop}

theorem jl_of {zs : List ByteArray} {s : ByteArray} (h : joined zs = s) : jl zs = s.data.toList := by
  subst h; rfl
theorem ok_ins {n : Nat} {x : Tx} (h : TxOk n x) (a : Nat) (t : ByteArray) (ha : a ≤ x.2.2.size) (hs : x.2.2.size + t.size ≤ 16384) (p : Value) : TxOk (n + 1) (p, insP x.2.1 a t, x.2.2.extract 0 a ++ t ++ x.2.2.extract a x.2.2.size) := by
  have hz := h.size
  refine ⟨joined_jl ?_, full_ins a t h.2.1, ?_, ?_⟩
  · rw [jl_ins, jl_of h.1]
    show _ = ((x.2.2.extract 0 a ++ t) ++ x.2.2.extract a x.2.2.size).data.toList
    rw [ByteArray.data_append, ByteArray.data_append, Array.toList_append, Array.toList_append, ext_list, ext_list, List.drop_zero, List.take_of_length_le (show x.2.2.data.toList.length ≤ x.2.2.size from Nat.le_refl _)]
  · show total (insP x.2.1 a t) ≤ 16384
    rw [total_ins]; omega
  · have := len_ins2 x.2.1 a t
    have := h.2.2.2
    show (insP x.2.1 a t).length ≤ 1 + 2 * (n + 1)
    omega
theorem ok_del {n : Nat} {x : Tx} (h : TxOk n x) (f g : Nat) (hfg : f ≤ g) (hg : g ≤ x.2.2.size) (p : Value) : TxOk (n + 1) (p, delP x.2.1 f g, x.2.2.extract 0 f ++ x.2.2.extract g x.2.2.size) := by
  have hz := h.size
  refine ⟨joined_jl ?_, full_del f g h.2.1, ?_, ?_⟩
  · rw [jl_del, jl_of h.1, List.drop_drop, show f + (g - f) = g by omega]
    show _ = (x.2.2.extract 0 f ++ x.2.2.extract g x.2.2.size).data.toList
    rw [ByteArray.data_append, Array.toList_append, ext_list, ext_list, List.drop_zero, List.take_of_length_le (show x.2.2.data.toList.length ≤ x.2.2.size from Nat.le_refl _)]
  · have h2 := h.2.2.1
    show total (delP x.2.1 f g) ≤ 16384
    rw [total_del _ _ _ hfg (by omega)]; omega
  · have := len_del2 x.2.1 f g
    have := h.2.2.2
    show (delP x.2.1 f g).length ≤ 1 + 2 * (n + 1)
    omega
theorem ins_no (x : Tx) (n : Nat) (a : Int) (t : ByteArray) (w : World) (h : TextAt R w x.1 x.2.1) (ho : TxOk n x) (ht : t.size ≤ 1000000) (hc : (refIns x.2.2 a t).2 ≠ 0) :
    Calls Try.prog 10 #[x.1, .int .i64 a, .string t] w fun e w' => e = .returned (.tuple #[.pointer none, .int .i64 (refIns x.2.2 a t).2]) ∧ w = w' := by
  have hz := ho.size
  unfold refIns at hc ⊢
  by_cases h1 : a < 0 ∨ (x.2.2.size : Int) < a
  · rw [if_pos h1]
    exact Insert_bad _ _ a t w h (by omega)
  · obtain ⟨k, rfl⟩ : ∃ k : Nat, a = k := ⟨a.toNat, by omega⟩
    rw [if_neg h1] at hc ⊢
    by_cases h2 : 16384 < x.2.2.size + t.size
    · rw [if_pos h2]
      have h3 := ho.2.2.1
      exact Insert_fullQ _ _ k t w h (by omega) h3 (by omega) ht
    · rw [if_neg h2] at hc
      exact absurd rfl hc
theorem ins_yes (x : Tx) (n : Nat) (a : Int) (t : ByteArray) (w : World) (h : TextAt R w x.1 x.2.1) (ho : TxOk n x) (hn : n ≤ 400) (hR : Lows R w.heap.size) (hc : (refIns x.2.2 a t).2 = 0) :
    Calls Try.prog 10 #[x.1, .int .i64 a, .string t] w fun e w' => ∃ b zs, e = .returned (.tuple #[.pointer (some ⟨b, 0, none⟩), .int .i64 0]) ∧ TextAt R w' (.pointer (some ⟨b, 0, none⟩)) zs ∧ TxOk (n + 1) (.pointer (some ⟨b, 0, none⟩), zs, (refIns x.2.2 a t).1) ∧ zs.length ≤ x.2.1.length + 2 ∧ Below w.heap.size w w' := by
  have hz := ho.size
  unfold refIns at hc ⊢
  by_cases h1 : a < 0 ∨ (x.2.2.size : Int) < a
  · rw [if_pos h1] at hc; exact absurd hc (by decide)
  · obtain ⟨k, rfl⟩ : ∃ k : Nat, a = k := ⟨a.toNat, by omega⟩
    rw [if_neg h1] at hc ⊢
    by_cases h2 : 16384 < x.2.2.size + t.size
    · rw [if_pos h2] at hc; exact absurd hc (by decide)
    · rw [if_neg h2]
      have h3 := ho.2.2.2
      refine (Insert_any _ _ k t w h (by omega) (by omega) (by omega) hR).mono ?_
      rintro e w' ⟨p', rfl, h4, h5⟩
      obtain ⟨b, _, rfl, _⟩ := id h4
      exact ⟨b, _, rfl, h4, ok_ins ho k t (by omega) (by omega) _, len_ins2 _ _ _, h5⟩
theorem del_no (x : Tx) (n : Nat) (f g : Int) (w : World) (h : TextAt R w x.1 x.2.1) (ho : TxOk n x) (hc : (refDel x.2.2 f g).2 ≠ 0) :
    Calls Try.prog 11 #[x.1, .int .i64 f, .int .i64 g] w fun e w' => e = .returned (.tuple #[.pointer none, .int .i64 (refDel x.2.2 f g).2]) ∧ w = w' := by
  have hz := ho.size
  unfold refDel at hc ⊢
  by_cases h1 : f < 0 ∨ (x.2.2.size : Int) < g ∨ g < f
  · rw [if_pos h1]
    exact Delete_bad _ _ f g w h (by omega)
  · rw [if_neg h1] at hc
    exact absurd rfl hc
theorem del_yes (x : Tx) (n : Nat) (f g : Int) (w : World) (h : TextAt R w x.1 x.2.1) (ho : TxOk n x) (hn : n ≤ 400) (hR : Lows R w.heap.size) (hc : (refDel x.2.2 f g).2 = 0) :
    Calls Try.prog 11 #[x.1, .int .i64 f, .int .i64 g] w fun e w' => ∃ b zs, e = .returned (.tuple #[.pointer (some ⟨b, 0, none⟩), .int .i64 0]) ∧ TextAt R w' (.pointer (some ⟨b, 0, none⟩)) zs ∧ TxOk (n + 1) (.pointer (some ⟨b, 0, none⟩), zs, (refDel x.2.2 f g).1) ∧ zs.length ≤ x.2.1.length + 1 ∧ Below w.heap.size w w' := by
  have hz := ho.size
  unfold refDel at hc ⊢
  by_cases h1 : f < 0 ∨ (x.2.2.size : Int) < g ∨ g < f
  · rw [if_pos h1] at hc; exact absurd hc (by decide)
  · obtain ⟨k, rfl⟩ : ∃ k : Nat, f = k := ⟨f.toNat, by omega⟩
    obtain ⟨m, rfl⟩ : ∃ m : Nat, g = m := ⟨g.toNat, by omega⟩
    rw [if_neg h1]
    have h3 := ho.2.2.2
    have h2 := ho.2.2.1
    refine (Delete_any _ _ k m w h (by omega) (by omega) h2 (by omega) hR).mono ?_
    rintro e w' ⟨p', rfl, h4, h5⟩
    obtain ⟨b, _, rfl, _⟩ := id h4
    exact ⟨b, _, rfl, h4, ok_del ho k m (by omega) (by omega) _, len_del2 _ _ _, h5⟩
theorem slice_any2 (x : Tx) (n : Nat) (f g : Int) (w : World) (h : TextAt R w x.1 x.2.1) (ho : TxOk n x) (hn : n ≤ 400) (hR : Lows R w.heap.size) :
    Calls Try.prog 14 #[x.1, .int .i64 f, .int .i64 g] w fun e w' => e = .returned (.string (refSlice x.2.2 f g)) ∧ Below w.heap.size w w' := by
  have hz := ho.size
  unfold refSlice
  by_cases h1 : f < 0 ∨ (x.2.2.size : Int) < g ∨ g < f
  · rw [if_pos h1]
    exact (Slice_badQ _ _ f g w h (by omega)).mono fun e w' hw => ⟨hw.1, hw.2 ▸ Below.refl _ _⟩
  · obtain ⟨k, rfl⟩ : ∃ k : Nat, f = k := ⟨f.toNat, by omega⟩
    obtain ⟨m, rfl⟩ : ∃ m : Nat, g = m := ⟨g.toNat, by omega⟩
    rw [if_neg h1]
    have h3 := ho.2.2.2
    refine Slice_any _ _ k m _ w h (by omega) (by omega) ho.2.2.1 (by omega) (joined_jl ?_) hR
    rw [jl_slice, jl_of ho.1, Int.toNat_natCast, Int.toNat_natCast, ext_list, List.drop_take]
end Go.Proofs.Ytmllbaacjodccaa
