/- What (*Text).Insert, Delete, Slice and New refuse, in the sight of other rows. -/
import Derived.Test.YtmllbaacjodccaaQcount
import Derived.Test.YtmllbaacjodccaaQall
namespace Go.Proofs.Ytmllbaacjodccaa
open Go.RowKit
variable {R : Nat → Prop}

theorem new_fullQ (s : ByteArray) (w : World) (hs : 16384 < s.size) (hz : s.size ≤ 9223372036854775807) : Calls Try.prog 9 #[.string s] w fun e w' => e = .returned (.tuple #[.pointer none, .int .i64 60]) ∧ w = w' := by
  have h' : (16384 : Int) < (s.size : Int) := by omega
  go_enter Try.func9, Try.ntmps9
  go_wp2
  go_ret2
  exact ⟨rfl, rfl⟩
theorem Insert_bad (p : Value) (zs : List ByteArray) (a : Int) (s : ByteArray) (w : World) (h : TextAt R w p zs) (ha : a < 0 ∨ (total zs : Int) < a) :
    Calls Try.prog 10 #[p, .int .i64 a, .string s] w fun e w' => e = .returned (.tuple #[.pointer none, .int .i64 2]) ∧ w = w' := by
  have H := hide h
  have HW : (decide (0 ≤ a) && decide (a ≤ a) && decide (a ≤ (total zs : Int))) = false := by simp; omega
  clear h ha
  go_enter Try.func10, Try.ntmps10
  go_wp2_with fail
  refine (none_text _ zs _ H.out).mono ?_; rintro e w1 ⟨rfl, rfl⟩
  go_wp2_with fail
  refine (within_any _ zs a a _ H.out).mono ?_; rw [HW]; rintro e w1 ⟨rfl, rfl⟩
  go_wp2
  go_ret2
  exact ⟨rfl, rfl⟩
theorem Insert_fullQ (p : Value) (zs : List ByteArray) (a : Nat) (s : ByteArray) (w : World) (h : TextAt R w p zs) (ha : a ≤ total zs) (ht : total zs ≤ 16384) (hs : 16384 < total zs + s.size) (hm : s.size ≤ 1000000) :
    Calls Try.prog 10 #[p, .int .i64 a, .string s] w fun e w' => e = .returned (.tuple #[.pointer none, .int .i64 60]) ∧ w = w' := by
  have H := hide h
  obtain ⟨b, v, rfl, -, h0, h1, h2, hst⟩ := h
  have HW : (decide (0 ≤ (a : Int)) && decide ((a : Int) ≤ a) && decide ((a : Int) ≤ (total zs : Int))) = true := by simp; omega
  clear hst
  go_enter Try.func10, Try.ntmps10
  go_wp2_with fail
  refine (none_text _ zs _ H.out).mono ?_; rintro e w1 ⟨rfl, rfl⟩
  go_wp2_with fail
  refine (within_any _ zs a a _ H.out).mono ?_; rw [HW]; rintro e w1 ⟨rfl, rfl⟩
  go_wp2
  go_ret2
  exact ⟨rfl, rfl⟩
theorem Delete_bad (p : Value) (zs : List ByteArray) (f t : Int) (w : World) (h : TextAt R w p zs) (hb : f < 0 ∨ (total zs : Int) < t ∨ t < f) :
    Calls Try.prog 11 #[p, .int .i64 f, .int .i64 t] w fun e w' => e = .returned (.tuple #[.pointer none, .int .i64 2]) ∧ w = w' := by
  have H := hide h
  have HW : (decide (0 ≤ f) && decide (f ≤ t) && decide (t ≤ (total zs : Int))) = false := by simp; omega
  clear h hb
  go_enter Try.func11, Try.ntmps11
  go_wp2_with fail
  refine (none_text _ zs _ H.out).mono ?_; rintro e w1 ⟨rfl, rfl⟩
  go_wp2_with fail
  refine (within_any _ zs f t _ H.out).mono ?_; rw [HW]; rintro e w1 ⟨rfl, rfl⟩
  go_wp2
  go_ret2
  exact ⟨rfl, rfl⟩
theorem Slice_badQ (p : Value) (zs : List ByteArray) (f t : Int) (w : World) (h : TextAt R w p zs) (hb : f < 0 ∨ (total zs : Int) < t ∨ t < f) :
    Calls Try.prog 14 #[p, .int .i64 f, .int .i64 t] w fun e w' => e = .returned (.string ⟨#[]⟩) ∧ w = w' := by
  have H := hide h
  have HW : (decide (0 ≤ f) && decide (f ≤ t) && decide (t ≤ (total zs : Int))) = false := by simp; omega
  clear h hb
  go_enter Try.func14, Try.ntmps14
  go_wp2_with fail
  refine (none_text _ zs _ H.out).mono ?_; rintro e w1 ⟨rfl, rfl⟩
  go_wp2_with fail
  refine (within_any _ zs f t _ H.out).mono ?_; rw [HW]; rintro e w1 ⟨rfl, rfl⟩
  go_wp2
  go_ret
  exact ⟨rfl, rfl⟩
end Go.Proofs.Ytmllbaacjodccaa
