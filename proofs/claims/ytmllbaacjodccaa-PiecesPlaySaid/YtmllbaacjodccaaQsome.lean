/- Contract of pieces.some. -/
import Derived.Test.YtmllbaacjodccaaQapp
namespace Go.Proofs.Ytmllbaacjodccaa
open Go.RowKit
variable {R : Nat → Prop}

theorem one_new {w : World} (hR : Lows R w.heap.size) (s : ByteArray) : Strs R (w.alloc (.cells #[.string s] 9)) (.slice (some ⟨w.heap.size, 0, none⟩) 1 1) [s] := by
  refine ⟨_, 1, rfl, by simp, fun j hj => ⟨_, _, rfl, ⟨TyR.new hR _, ?_⟩, ?_⟩⟩
  · rw [frozen?_alloc_cells]; simp [World.frozen?]
  · obtain rfl : j = 0 := by simpa using hj
    simp
/-- A slice without room for one more. -/
theorem full_app {W : World} {B : Nat} {A : Option Addr} {n c : Nat} {zs : List ByteArray} (x : ByteArray) (r : List ByteArray) (h : Strs R W (.slice A n c) zs) : App R W B (.slice A zs.length zs.length) zs (x :: r) := by
  obtain ⟨A', cap, e, hc, hs⟩ := h
  injection e with e1 e2 e3
  subst e1 e2 e3
  cases zs with
  | nil => exact .inl ⟨A, rfl, rfl⟩
  | cons z l =>
    obtain ⟨b, o, rfl, _, hcell⟩ := hs 0 (by simp)
    refine .inr ⟨b, o, _, rfl, World.block_lt_of_cell? _ _ hcell, Nat.le_refl _, fun j hj => ?_, fun hr => absurd hr (by simp only [List.length_cons]; omega)⟩
    obtain ⟨b', o', e, _, hcell⟩ := hs j hj
    injection e with e; injection e with e1 e2; subst e1 e2
    exact hcell
theorem App.weaken {W : World} {B C : Nat} {v : Value} {zs bs : List ByteArray} (h : App R W C v zs bs) (hc : B ≤ C) : App R W B v zs bs := by
  rcases h with h | ⟨g, off, cap, e, hg, hl, h1, h2⟩
  · exact .inl h
  · refine .inr ⟨g, off, cap, e, hg, hl, h1, fun hr => ?_⟩
    obtain ⟨hf, ht, h3⟩ := h2 hr
    refine ⟨hf, ht, ?_⟩
    rcases h3 with ⟨ha, h3⟩ | h3
    · exact .inl ⟨by omega, h3⟩
    · exact .inr h3
theorem one_piece (s : ByteArray) (h : s.size ≠ 0) : onePiece s = [s] := by rw [onePiece, if_neg h]
theorem no_piece (s : ByteArray) (h : s.size = 0) : onePiece s = [] := by rw [onePiece, if_pos h]
set_option maxHeartbeats 1000000 in
theorem some_gen (v : Value) (zs : List ByteArray) (s : ByteArray) (w : World) (h : Strs R w v zs) (hl : zs.length ≤ 10000) (hR : Lows R w.heap.size) :
    Calls Try.prog 23 #[v, .string s] w fun e w' => ∃ v', e = .returned v' ∧ Strs R w' v' (zs ++ onePiece s) ∧ Below w.heap.size w w' ∧ ((s.size = 0 ∧ v' = v) ∨ ∀ bs, App R w' w.heap.size v' (zs ++ onePiece s) bs) := by
  have H := hide h
  obtain ⟨A, cap, rfl, hc, hs⟩ := h
  clear hs
  by_cases h0 : s.size = 0
  · have HO := hide (no_piece s h0)
    obtain rfl : s = ⟨#[]⟩ := by
      cases s with | mk d => cases d with | mk l => cases l with | nil => rfl | cons a l => simp [ByteArray.size] at h0
    go_enter Try.func23, Try.ntmps23
    go_wp2
    go_ret
    exact ⟨_, rfl, by rw [HO.out, List.append_nil]; exact H.out, Below.refl _ _, .inl ⟨rfl, rfl⟩⟩
  · have HO := hide (one_piece s h0)
    have hq : (s.toList == []) = false := by
      rw [ByteArray.toList_eq]
      cases hh : s.data.toList with
      | nil => exact absurd (by show s.data.toList.length = 0; rw [hh]; rfl) h0
      | cons a l => rfl
    have hwA : Below w.heap.size w (w.alloc (.cells #[.string s] 9)) := (Below.refl _ _).alloc (Nat.le_refl _) _
    have HA := hide (full_app (B := w.heap.size) s [] (H.out.below hwA))
    have HN := hide (one_new hR s)
    have HB := hide hwA
    have HS := hide hwA.size
    clear hwA h0
    go_enter Try.func23, Try.ntmps23
    go_wp2_with (at_builtin; refine wpList_app _ rfl _ _ rfl w.heap.size HS.out (hR.up HS.out) (.slice A zs.length zs.length) _ zs [s] rfl rfl HA.out HN.out (by simp; omega) ?_; intro v' w1 h1 h2 h3; have H1 := hide h1; have H2 := hide h2; have H3 := hide h3; clear h1 h2 h3)
    go_ret
    refine ⟨v', rfl, by rw [HO.out]; exact H1.out, HB.out.trans H2.out, .inr fun bs => ?_⟩
    rw [HO.out]
    have := H3.out (fun g off c e => by injection e with _ _ e; rw [← e]; simp) (by simp) bs
    refine App.weaken this HS.out
end Go.Proofs.Ytmllbaacjodccaa
