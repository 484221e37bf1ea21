/- Contracts of pieces.some (of none), pieces.New, (*Text).none, (*Text).String. -/
import Derived.Test.YtmllbaacjodccaaQtext
namespace Go.Proofs.Ytmllbaacjodccaa
open Go.RowKit
variable {R : Nat → Prop}

/-- The pieces of a text that is made at once. -/
def onePiece (s : ByteArray) : List ByteArray := if s.size = 0 then [] else [s]
theorem info_str : (Try.prog.info? 9).map (fun i => (i.zero, i.size, i.bytes)) = some (some (.string ⟨#[]⟩), 1, 16) := by kernel_rfl
theorem strs_of_own {w : World} {B : Nat} {v : Value} {s : ByteArray} (hR : Lows R B) (h : w.ownsRow B 9 1 v 1 [.string s]) : Strs R w v [s] := by
  rcases h.2 with ⟨_, h0⟩ | ⟨g, cap, cur, rfl, hg, hh, h1, h2, h3, h4⟩
  · omega
  · refine ⟨some ⟨g, 0, none⟩, cap, rfl, h1, fun j hj => ⟨g, 0, rfl, ⟨⟨⟨_, _, hh⟩, hR _ hg⟩, h.frozenAt _⟩, ?_⟩⟩
    obtain rfl : j = 0 := by simpa using hj
    rw [h.cellAt 0 (by omega)]
    rfl
theorem strs_nil (w : World) : Strs R w (.slice none 0 0) [] := ⟨none, 0, rfl, by simp, fun j hj => by simp at hj⟩

set_option maxHeartbeats 400000 in
theorem some_nil (s : ByteArray) (w : World) (hR : Lows R w.heap.size) : Calls Try.prog 23 #[.slice none 0 0, .string s] w fun e w' => ∃ v, e = .returned v ∧ Strs R w' v (onePiece s) ∧ Below w.heap.size w w' := by
  obtain ⟨i0, hi, hz0, hz1, hz2⟩ := info_parts info_str
  by_cases h : s.size = 0
  · obtain rfl : s = ⟨#[]⟩ := by
      cases s with | mk d => cases d with | mk l => cases l with | nil => rfl | cons a l => simp [ByteArray.size] at h
    have HN := hide (strs_nil (R := R) w)
    go_enter Try.func23, Try.ntmps23
    go_wp2
    go_ret
    exact ⟨_, rfl, HN.out, Below.refl _ _⟩
  · have HP := hide (show onePiece s = [s] by rw [onePiece, if_neg h])
    have hq : (s.toList == []) = false := by
      rw [ByteArray.toList_eq]
      cases hh : s.data.toList with
      | nil => exact absurd (by show s.data.toList.length = 0; rw [hh]; rfl) h
      | cons a l => rfl
    clear h
    go_enter Try.func23, Try.ntmps23
    go_wp2_with (at_builtin; refine wpList_append_own _ rfl _ _ 35 rfl w.heap.size 9 i0 (.string ⟨#[]⟩) 1 16 Try.underlying35 hi hz0 hz1 hz2 rfl (by decide) _ _ _ rfl ((World.ownsRow_nil _ _ _ _).alloc _) ⟨w.heap.size, 0, none⟩ 1 1 [.string s] rfl rfl (cell_one_new _ _ _) (by simp [Value.oneCell']) (by unfold maxLen; omega) (by omega) (by simp) ?_; intro v' w1 hown1 hgrow1 _)
    go_ret
    refine ⟨v', rfl, ?_, ?_⟩
    · rw [HP.out]; exact strs_of_own hR hown1
    · exact ((Below.refl _ _).alloc (Nat.le_refl _) _).grown hgrow1 (by simp) (fun k e => by have e' : (none : Option Nat) = some k := e; cases e')

set_option maxHeartbeats 400000 in
theorem new_any (s : ByteArray) (w : World) (hs : s.size ≤ 16384) (hR : Lows R w.heap.size) : Calls Try.prog 9 #[.string s] w fun e w' => ∃ p, e = .returned (.tuple #[p, .int .i64 0]) ∧ TextAt R w' p (onePiece s) ∧ Below w.heap.size w w' := by
  have hz : total (onePiece s) ≤ 1048576 := by unfold onePiece; split <;> simp [total]; omega
  have hl : (onePiece s).length ≤ 1048576 := by unfold onePiece; split <;> simp
  have HZ := hide hz
  have HL := hide hl
  clear hz hl
  go_enter Try.func9, Try.ntmps9
  go_wp2_with (first
    | (go_at_call 23; refine (some_nil s _ hR).mono ?_; rintro e w1 ⟨v, rfl, hv, hb1⟩; have HV := hide hv; have HB1 := hide hb1; clear hv hb1)
    | (go_at_call 22; refine (of_any v _ _ HZ.out HL.out HV.out).mono ?_; rintro e w2 ⟨p, rfl, hp, hb2⟩; have HP := hide hp; have HB2 := hide (HB1.out.trans (hb2.mono HB1.out.size)); clear hp hb2))
  go_ret2
  exact ⟨p, rfl, HP.out, HB2.out⟩

set_option maxHeartbeats 400000 in
theorem none_text (p : Value) (zs : List ByteArray) (w : World) (h : TextAt R w p zs) : Calls Try.prog 24 #[p] w fun e w' => e = .returned (.bool false) ∧ w = w' := by
  obtain ⟨b, v, rfl, -, h0, h1, h2, hs⟩ := h
  go_enter Try.func24, Try.ntmps24
  go_wp2
  go_ret
  exact ⟨rfl, rfl⟩

/-- All bytes of some pieces, one behind the other. -/
def joined (zs : List ByteArray) : ByteArray := ⟨(zs.flatMap fun z => z.data.toList).toArray⟩
theorem joined_one (s : ByteArray) : joined (onePiece s) = s := by
  unfold onePiece joined
  split
  · rename_i h
    cases s with | mk d => cases d with | mk l => cases l with | nil => rfl | cons a l => simp [ByteArray.size] at h
  · cases s with | mk d => cases d with | mk l => simp
theorem join_data (zs : List ByteArray) : Lib.join (zs.map (·.data.toList)) (⟨#[]⟩ : ByteArray).data.toList = (joined zs).data.toList := by
  show ([] : List UInt8).intercalate (zs.map (·.data.toList)) = _
  unfold joined
  induction zs with
  | nil => rfl
  | cons a l ih =>
    cases l with
    | nil => simp [List.intercalate]
    | cons b m =>
      simp only [List.intercalate, List.map_cons, List.intersperse_cons_cons, List.flatten_cons, List.nil_append, List.flatMap_cons] at ih ⊢
      simpa using ih
theorem joined_size (zs : List ByteArray) : (joined zs).size = total zs := by
  unfold joined total ByteArray.size
  induction zs with
  | nil => rfl
  | cons a l ih => simp only [List.flatMap_cons, List.map_cons, List.sum_cons, List.size_toArray, List.length_append] at ih ⊢; rw [ih]; simp
set_option maxHeartbeats 400000 in
theorem join_any (v : Value) (zs : List ByteArray) (w : World) (h : Strs R w v zs) (hz : total zs ≤ 1048576) (hl : zs.length ≤ 1048576) :
    Calls Try.prog 27 #[v, .string ⟨#[]⟩] w fun e w' => e = .returned (.string (joined zs)) ∧ Below w.heap.size w w' := by
  obtain ⟨A, cap, rfl, hc, hs⟩ := h
  by_cases h0 : zs.length = 0
  · obtain rfl : zs = [] := List.length_eq_zero_iff.1 h0
    exact (Try.strings_Join_none A cap ⟨#[]⟩ w).mono fun e w' ⟨he, hw⟩ => ⟨he, hw ▸ Below.refl _ _⟩
  · obtain ⟨b, o, rfl, -, hb⟩ := hs 0 (by omega)
    refine (Try.strings_Join b o cap zs ⟨#[]⟩ w (fun j x hx => ?_) (World.block_lt_of_cell? _ _ hb) (by omega) hc (by rw [join_data, Array.length_toList, show (joined zs).data.size = total zs from joined_size zs]; omega)).mono fun e w' ⟨he, hw⟩ => ⟨?_, hw⟩
    · have hj : j < zs.length := (List.getElem?_eq_some_iff.1 hx).1
      obtain ⟨b', o', e, -, hcell⟩ := hs j hj
      injection e with e; injection e with e1 e2
      subst e1 e2
      rw [hcell, hx]; rfl
    · rw [he, join_data]

set_option maxHeartbeats 400000 in
theorem str_any (p : Value) (zs : List ByteArray) (w : World) (h : TextAt R w p zs) (hz : total zs ≤ 1048576) (hl : zs.length ≤ 1048576) :
    Calls Try.prog 12 #[p] w fun e w' => e = .returned (.string (joined zs)) ∧ Below w.heap.size w w' := by
  have HN := hide h
  obtain ⟨b, v, rfl, -, h0, h1, h2, hs⟩ := h
  have HS := hide hs
  clear hs
  go_enter Try.func12, Try.ntmps12
  go_wp2_with (first
    | (go_at_call 24; refine (none_text _ zs _ HN.out).mono ?_; rintro e w1 ⟨rfl, rfl⟩)
    | (go_at_call 27; refine (join_any v zs _ HS.out hz hl).mono ?_; rintro e w1 ⟨rfl, hb1⟩))
  go_ret
  exact ⟨rfl, hb1⟩
end Go.Proofs.Ytmllbaacjodccaa
