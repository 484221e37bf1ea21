/- The Undo and the reference's Undo side by side: each act keeps them alike. -/
import Derived.Test.YtgpcpfohfoeclaaUrdo3
namespace Go.Proofs.Ytgpcpfohfoeclaa
open Go.RowKit

/-- States as the reference holds them. -/
def mp (A : List (Nat × Int × ByteArray)) : List (ByteArray × Int) := A.map fun x => (x.2.2, x.2.1)
theorem mp_append (A C : List (Nat × Int × ByteArray)) : mp (A ++ C) = mp A ++ mp C := by simp [mp]
theorem mp_length (A : List (Nat × Int × ByteArray)) : (mp A).length = A.length := by simp [mp]
/-- Both hold the same states, and the same one is now. -/
def Both (W : World) (B b r : Nat) (cur : Nat × Int × ByteArray) (were gone : List (Nat × Int × ByteArray)) (o : Int) : Prop :=
  Und W B b cur were gone o ∧ RAt W B r (mp (were ++ cur :: gone.reverse)) were.length o ∧ were.length + gone.length ≤ 100
theorem Both.below {A W : World} {B b r : Nat} {cur : Nat × Int × ByteArray} {were gone : List (Nat × Int × ByteArray)} {o : Int} (h : Both A B b r cur were gone o) (hb : Below A.heap.size A W) : Both W B b r cur were gone o := ⟨h.1.below hb, h.2.1.below hb, h.2.2⟩
theorem both_take (cur : Nat × Int × ByteArray) (were gone : List (Nat × Int × ByteArray)) : (mp (were ++ cur :: gone.reverse)).take (were.length + 1) = mp (were ++ [cur]) := by
  rw [show were ++ cur :: gone.reverse = (were ++ [cur]) ++ gone.reverse by simp, mp_append, List.take_left' (by rw [mp_length]; simp)]
theorem both_len (cur : Nat × Int × ByteArray) (were gone : List (Nat × Int × ByteArray)) : (mp (were ++ cur :: gone.reverse)).length = were.length + gone.length + 1 := by
  rw [mp_length]; simp; omega
theorem both_now (cur : Nat × Int × ByteArray) (were gone : List (Nat × Int × ByteArray)) : (mp (were ++ cur :: gone.reverse))[were.length]? = some (cur.2.2, cur.2.1) := by
  rw [mp_append, List.getElem?_append_right (by rw [mp_length]; omega), mp_length, Nat.sub_self]; rfl
/-- The reference's part of a change of another group. -/
theorem both_do (B b r : Nat) (cur x : Nat × Int × ByteArray) (were gone : List (Nat × Int × ByteArray)) (o grp : Int) (w : World) (hU : Und w B b x ((were ++ [cur]).drop (were.length + 1 - 100)) [] (max grp 0)) (hR : RAt w B r (mp (were ++ cur :: gone.reverse)) were.length o) (hn : were.length + gone.length ≤ 100) (hB : B ≤ w.heap.size) (hg : grp ≤ 0 ∨ grp ≠ o) :
    Calls Try.prog 21 #[.pointer (some ⟨r, 0, none⟩), .string x.2.2, .int .i64 x.2.1, .int .i64 grp] w fun e w' => e = .returned (.tuple #[]) ∧ Both w' B b r x ((were ++ [cur]).drop (were.length + 1 - 100)) [] (max grp 0) ∧ KeptR w w' ∧ Below B w w' := by
  have hl := both_len cur were gone
  by_cases hs : were.length + 2 ≤ 101
  · refine (rdo_other B r _ were.length o grp x.2.1 x.2.2 w hR hB (by omega) hg hs).mono ?_
    rintro e w' ⟨rfl, h1, h2, h3⟩
    refine ⟨rfl, ⟨hU.keptR h2, ?_, ?_⟩, h2, h3⟩
    · rw [show were.length + 1 - 100 = 0 by omega, List.drop_zero]
      rw [both_take] at h1
      have e : mp ((were ++ [cur]) ++ x :: ([] : List (Nat × Int × ByteArray)).reverse) = mp (were ++ [cur]) ++ [(x.2.2, x.2.1)] := by rw [mp_append]; rfl
      rw [e]
      simpa using h1
    · simp; omega
  · have h100 : were.length = 100 := by omega
    refine (rdo_long B r _ were.length o grp x.2.1 x.2.2 w hR hB (by omega) hg h100).mono ?_
    rintro e w' ⟨rfl, h1, h2, h3⟩
    refine ⟨rfl, ⟨hU.keptR h2, ?_, ?_⟩, h2, h3⟩
    · rw [show were.length + 1 - 100 = 1 by omega]
      rw [both_take] at h1
      have e : mp ((were ++ [cur]).drop 1 ++ x :: ([] : List (Nat × Int × ByteArray)).reverse) = (mp (were ++ [cur]) ++ [(x.2.2, x.2.1)]).tail := by
        cases were with
        | nil => simp at h100
        | cons a l => simp [mp]
      rw [e, show ((were ++ [cur]).drop 1).length = were.length by simp]
      exact h1
    · simp; omega
theorem both_same (B b r : Nat) (cur x : Nat × Int × ByteArray) (were gone : List (Nat × Int × ByteArray)) (grp : Int) (w : World) (hU : Und w B b x were [] grp) (hR : RAt w B r (mp (were ++ cur :: gone.reverse)) were.length grp) (hn : were.length + gone.length ≤ 100) (hB : B ≤ w.heap.size) (hg : 0 < grp) :
    Calls Try.prog 21 #[.pointer (some ⟨r, 0, none⟩), .string x.2.2, .int .i64 x.2.1, .int .i64 grp] w fun e w' => e = .returned (.tuple #[]) ∧ Both w' B b r x were [] grp ∧ KeptR w w' ∧ Below B w w' := by
  have hl := both_len cur were gone
  refine (rdo_same B r _ were.length grp grp x.2.1 x.2.2 w hR hB (by omega) hg rfl (by omega)).mono ?_
  rintro e w' ⟨rfl, h1, h2, h3⟩
  refine ⟨rfl, ⟨hU.keptR h2, ?_, by simp; omega⟩, h2, h3⟩
  rw [both_take] at h1
  have e : mp (were ++ x :: ([] : List (Nat × Int × ByteArray)).reverse) = (mp (were ++ [cur])).set were.length (x.2.2, x.2.1) := by
    rw [mp_append, mp_append, List.set_append_right _ _ (by rw [mp_length]; omega), mp_length, Nat.sub_self]; rfl
  rw [e]
  exact h1
theorem both_move (B b r : Nat) (cur : Nat × Int × ByteArray) (were gone : List (Nat × Int × ByteArray)) (o c : Int) (w : World) (hU : Und w B b (cur.1, c, cur.2.2) were gone o) (hR : RAt w B r (mp (were ++ cur :: gone.reverse)) were.length o) (hn : were.length + gone.length ≤ 100) (hB : B ≤ w.heap.size) :
    Calls Try.prog 20 #[.pointer (some ⟨r, 0, none⟩), .int .i64 c] w fun e w' => e = .returned (.tuple #[]) ∧ Both w' B b r (cur.1, c, cur.2.2) were gone o ∧ Below B w w' := by
  have hl := both_len cur were gone
  refine (rmove_any B r _ were.length o c _ w hR hB (both_now cur were gone) (by omega)).mono ?_
  rintro e w' ⟨rfl, h1, h2, h3⟩
  refine ⟨rfl, ⟨hU.keptR h2, ?_, hn⟩, h3⟩
  have e : mp (were ++ (cur.1, c, cur.2.2) :: gone.reverse) = (mp (were ++ cur :: gone.reverse)).set were.length (cur.2.2, c) := by
    rw [mp_append, mp_append, List.set_append_right _ _ (by rw [mp_length]; omega), mp_length, Nat.sub_self]; rfl
  rw [e]
  exact h1
theorem both_back (B b r : Nat) (cur y : Nat × Int × ByteArray) (ws gone : List (Nat × Int × ByteArray)) (o : Int) (w : World) (hU : Und w B b y ws (gone ++ [cur]) 0) (hR : RAt w B r (mp ((ws ++ [y]) ++ cur :: gone.reverse)) (ws ++ [y]).length o) (hn : (ws ++ [y]).length + gone.length ≤ 100) (hB : B ≤ w.heap.size) :
    Calls Try.prog 18 #[.pointer (some ⟨r, 0, none⟩), .int .i64 (-1)] w fun e w' => e = .returned (.tuple #[.agg #[.string y.2.2, .int .i64 y.2.1], .bool true]) ∧ Both w' B b r y ws (gone ++ [cur]) 0 ∧ Below B w w' := by
  have hl := both_len cur (ws ++ [y]) gone
  have hls : (ws ++ [y]).length = ws.length + 1 := by simp
  have e : (ws ++ [y]) ++ cur :: gone.reverse = ws ++ y :: (gone ++ [cur]).reverse := by simp
  rw [e] at hR hl
  refine (rgo_any B r _ _ ws.length o (-1) (y.2.2, y.2.1) w hR hB (both_now y ws (gone ++ [cur])) (by rw [hls]; omega) (by omega) (by omega) (by omega)).mono ?_
  rintro e w' ⟨rfl, h1, h2, h3⟩
  exact ⟨rfl, ⟨hU.keptR h2, h1, by simp at hn ⊢; omega⟩, h3⟩
theorem both_forth (B b r : Nat) (cur y : Nat × Int × ByteArray) (were gs : List (Nat × Int × ByteArray)) (o : Int) (w : World) (hU : Und w B b y (were ++ [cur]) gs 0) (hR : RAt w B r (mp (were ++ cur :: (gs ++ [y]).reverse)) were.length o) (hn : were.length + (gs ++ [y]).length ≤ 100) (hB : B ≤ w.heap.size) :
    Calls Try.prog 18 #[.pointer (some ⟨r, 0, none⟩), .int .i64 1] w fun e w' => e = .returned (.tuple #[.agg #[.string y.2.2, .int .i64 y.2.1], .bool true]) ∧ Both w' B b r y (were ++ [cur]) gs 0 ∧ Below B w w' := by
  have hl := both_len cur were (gs ++ [y])
  have hls : (were ++ [cur]).length = were.length + 1 := by simp
  have e : were ++ cur :: (gs ++ [y]).reverse = (were ++ [cur]) ++ y :: gs.reverse := by simp
  rw [e] at hR hl
  refine (rgo_any B r _ _ (were ++ [cur]).length o 1 (y.2.2, y.2.1) w hR hB (both_now y (were ++ [cur]) gs) (by rw [hls]; omega) (by omega) (by omega) (by omega)).mono ?_
  rintro e w' ⟨rfl, h1, h2, h3⟩
  exact ⟨rfl, ⟨hU.keptR h2, h1, by simp at hn ⊢; omega⟩, h3⟩
theorem both_back_none (B b r : Nat) (cur : Nat × Int × ByteArray) (gone : List (Nat × Int × ByteArray)) (o : Int) (w : World) (h : Both w B b r cur [] gone o) :
    Calls Try.prog 18 #[.pointer (some ⟨r, 0, none⟩), .int .i64 (-1)] w fun e w' => e = .returned (.tuple #[.agg #[.string ⟨#[]⟩, .int .i64 0], .bool false]) ∧ Below w.heap.size w w' := by
  have hl := both_len cur [] gone
  have hn := h.2.2
  exact rgo_none B r _ _ o (-1) w h.2.1 (.inl (by simp)) (by omega) (by omega) (by omega)
theorem both_forth_none (B b r : Nat) (cur : Nat × Int × ByteArray) (were : List (Nat × Int × ByteArray)) (o : Int) (w : World) (h : Both w B b r cur were [] o) :
    Calls Try.prog 18 #[.pointer (some ⟨r, 0, none⟩), .int .i64 1] w fun e w' => e = .returned (.tuple #[.agg #[.string ⟨#[]⟩, .int .i64 0], .bool false]) ∧ Below w.heap.size w w' := by
  have hl := both_len cur were []
  have hn := h.2.2
  exact rgo_none B r _ _ o 1 w h.2.1 (.inr (by rw [hl]; simp)) (by omega) (by omega) (by omega)
end Go.Proofs.Ytgpcpfohfoeclaa
