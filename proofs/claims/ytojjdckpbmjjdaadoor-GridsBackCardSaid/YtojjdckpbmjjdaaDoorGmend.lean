/- Contract of limnerref06.mend. -/
import Derived.Test.YtojjdckpbmjjdaaDoorGwipe
import Derived.Test.YtojjdckpbmjjdaaDoorGput
namespace Go.Proofs.YtojjdckpbmjjdaaDoor
open Go.RowKit

theorem mendL_step (l : List Cl) (p : Option Cl) (j : Nat) : (mendL p l)[j]? = l[j]?.map fun c => mendAt (if j = 0 then p else (mendL p l)[j - 1]?) c l[j + 1]? := by
  induction l generalizing p j with
  | nil => simp [mendL]
  | cons a t ih =>
    rw [mendL]
    cases j with
    | zero => simp [List.head?_eq_getElem?]
    | succ j =>
      rw [List.getElem?_cons_succ, ih, List.getElem?_cons_succ, List.getElem?_cons_succ, Nat.add_sub_cancel, if_neg (Nat.succ_ne_zero j)]
      cases j with
      | zero => simp
      | succ j => simp
/-- The part of m cells from k on, of which the first i are mended. -/
def MendTo (L : List Cl) (k m i : Nat) (M : List Cl) : Prop := M.length = L.length ∧ ∀ j, M[j]? = if k ≤ j ∧ j < k + i then (mendL none ((L.drop k).take m))[j - k]? else L[j]?
def mended (L : List Cl) (k m : Nat) : List Cl := L.take k ++ mendL none ((L.drop k).take m) ++ L.drop (k + m)
theorem mend_none (L : List Cl) (k m : Nat) : MendTo L k m 0 L := ⟨rfl, fun j => by rw [if_neg (by omega)]⟩
theorem mend_done {L M : List Cl} {k m : Nat} (hk : k + m ≤ L.length) (h : MendTo L k m m M) : M = mended L k m := by
  apply List.ext_getElem?
  intro j
  rw [h.2 j]
  have e1 : (L.take k).length = k := by rw [List.length_take]; omega
  have e2 : (mendL none ((L.drop k).take m)).length = m := by rw [mend_len, List.length_take, List.length_drop]; omega
  unfold mended
  by_cases a : j < k
  · rw [if_neg (by omega), List.append_assoc, List.getElem?_append_left (by omega), List.getElem?_take_of_lt a]
  by_cases b : j < k + m
  · rw [if_pos (by omega), List.getElem?_append_left (by rw [List.length_append]; omega), List.getElem?_append_right (by omega), e1]
  · rw [if_neg (by omega), List.getElem?_append_right (by rw [List.length_append]; omega), List.length_append, e1, e2, List.getElem?_drop]
    congr 1
    omega
theorem part_at {L : List Cl} {k m j : Nat} (h : j < m) : ((L.drop k).take m)[j]? = L[k + j]? := by
  rw [List.getElem?_take_of_lt h, List.getElem?_drop]
theorem part_end {L : List Cl} {k m j : Nat} (h : m ≤ j) : ((L.drop k).take m)[j]? = none := List.getElem?_take_eq_none h
/-- One cell on. -/
theorem mend_step {L M : List Cl} {k m i : Nat} (h : MendTo L k m i M) (hi : i < m) (hk : k + m ≤ L.length) {c : Cl} (hc : M[k + i]? = some c) {x : Cl}
    (hx : mendAt (if i = 0 then none else M[k + i - 1]?) c (if i + 1 = m then none else M[k + i + 1]?) = x) : MendTo L k m (i + 1) (M.set (k + i) x) := by
  have hl : L[k + i]? = some c := by rw [← hc, h.2, if_neg (by omega)]
  have hm : (mendL none ((L.drop k).take m))[i]? = some x := by
    rw [mendL_step, part_at hi, hl, Option.map_some, ← hx]
    congr 2
    · by_cases h0 : i = 0
      · rw [if_pos h0, if_pos h0]
      · rw [if_neg h0, if_neg h0, h.2, if_pos (by omega), show k + i - 1 - k = i - 1 by omega]
    · by_cases h1 : i + 1 = m
      · rw [if_pos h1, part_end (by omega)]
      · rw [if_neg h1, part_at (by omega), h.2, if_neg (by omega)]; rfl
  refine ⟨by rw [List.length_set]; exact h.1, fun j => ?_⟩
  rw [List.getElem?_set, h.1]
  by_cases e : k + i = j
  · subst e
    rw [if_pos rfl, if_pos (by omega), if_pos (by omega), show k + i - k = i by omega, hm]
  · rw [if_neg e, h.2]
    by_cases a : k ≤ j ∧ j < k + i
    · rw [if_pos a, if_pos (by omega)]
    · rw [if_neg a, if_neg (by omega)]
theorem mend_stay {L M : List Cl} {k m i : Nat} (h : MendTo L k m i M) (hi : i < m) (hk : k + m ≤ L.length) {c : Cl} (hc : M[k + i]? = some c)
    (hx : mendAt (if i = 0 then none else M[k + i - 1]?) c (if i + 1 = m then none else M[k + i + 1]?) = c) : MendTo L k m (i + 1) M := by
  have := mend_step h hi hk hc hx
  have e : M.set (k + i) c = M := by
    apply List.ext_getElem?
    intro j
    rw [List.getElem?_set]
    by_cases e : k + i = j
    · subst e; rw [if_pos rfl, if_pos (by rw [h.1]; omega), hc]
    · rw [if_neg e]
  rwa [e] at this
/-- The part of a slice of the call's own, cell by cell. -/
theorem own_part {W : World} {B g n c : Nat} {L : List Cl} (h : OwnC W B (.slice (some ⟨g, 0, none⟩) n c) L) {k j : Nat} {x : Cl} (hx : L[k + j]? = some x) :
    W.cell? ⟨g, k * 6 + j * 6, none⟩ = some (.int .i32 x.r) ∧ W.cell? ⟨g, k * 6 + j * 6 + 1, none⟩ = some (.int .i64 x.w) ∧ W.cell? ⟨g, k * 6 + j * 6 + 2, none⟩ = some (.int .i64 x.fg) ∧ W.cell? ⟨g, k * 6 + j * 6 + 3, none⟩ = some (.bool x.bo) ∧ W.cell? ⟨g, k * 6 + j * 6 + 4, none⟩ = some (.bool x.un) ∧ W.cell? ⟨g, k * 6 + j * 6 + 5, none⟩ = some (.bool x.iv) := by
  have := h.cls.get hx
  rw [Nat.add_mul, Nat.zero_add] at this
  exact this
theorem own_set_part {W : World} {B g n c : Nat} {L : List Cl} (h : OwnC W B (.slice (some ⟨g, 0, none⟩) n c) L) (hn : L.length = n) {k j : Nat} (hj : k + j < n) (x : Cl) :
    OwnC ((((((W.setCell ⟨g, k * 6 + j * 6, none⟩ (.int .i32 x.r)).setCell ⟨g, k * 6 + j * 6 + 1, none⟩ (.int .i64 x.w)).setCell ⟨g, k * 6 + j * 6 + 2, none⟩ (.int .i64 x.fg)).setCell ⟨g, k * 6 + j * 6 + 3, none⟩ (.bool x.bo)).setCell ⟨g, k * 6 + j * 6 + 4, none⟩ (.bool x.un)).setCell ⟨g, k * 6 + j * 6 + 5, none⟩ (.bool x.iv)) B (.slice (some ⟨g, 0, none⟩) n c) (L.set (k + j) x) := by
  rw [← Nat.add_mul]
  exact own_set6 h hn hj x
theorem OwnC.under {w W : World} {B C g n c : Nat} {L : List Cl} (h : OwnC w B (.slice (some ⟨g, 0, none⟩) n c) L) (hb : Below C w W) (hg : g < C) : OwnC W B (.slice (some ⟨g, 0, none⟩) n c) L := by
  refine ⟨h.1, ?_⟩
  rcases h.2 with h0 | ⟨g', cap, cur, e, hg', hh, q⟩
  · exact .inl h0
  · injection e with e e2; injection e with e; injection e with e; subst e
    refine .inr ⟨g, cap, cur, ?_, hg', (hb.block g hg).trans hh, q⟩
    rw [← e2]
    congr 1
theorem OwnC.inb {W : World} {B g n c : Nat} {L : List Cl} (h : OwnC W B (.slice (some ⟨g, 0, none⟩) n c) L) : g < W.heap.size := by
  rcases h.2 with ⟨e, h0⟩ | ⟨g', cap, cur, e, hg, hh, r⟩
  · cases e
  · injection e with e; injection e with e; injection e with e; subst e
    exact (Array.getElem?_eq_some_iff.1 hh).1
theorem grown_below {w W : World} (h : Below w.heap.size w W) (g : Option Nat) : w.grownBy W g := ⟨h.os, h.tape, h.output, h.size, fun k hk _ => h.block k hk⟩
theorem mend_cut (p : Option Cl) (c : Cl) (n : Option Cl) : mendAt p c n = if c.w = 2 then (if n.all (fun d => decide (d.w ≠ 0)) = true then blankC else c) else if c.w = 0 then (if p.all (fun d => decide (d.w ≠ 2)) = true then blankC else c) else c := by
  unfold mendAt
  by_cases h2 : c.w = 2
  · have h0 : ¬ c.w = 0 := by omega
    rw [if_pos h2]
    simp only [h2, true_and, show ¬ ((2 : Int) = 0) by omega, false_and, or_false]
  · rw [if_neg h2]
    by_cases h0 : c.w = 0
    · rw [if_pos h0]
      simp only [h0, true_and, show ¬ ((0 : Int) = 2) by omega, false_and, false_or]
    · rw [if_neg h0, if_neg (by simp [h2, h0])]
set_option maxRecDepth 100000 in
set_option maxHeartbeats 2000000 in
theorem mend_any (g n c B k m c' : Nat) (L : List Cl) (w : World) (h : OwnC w B (.slice (some ⟨g, 0, none⟩) n c) L) (hn : L.length = n) (hc : n ≤ 20000) (hk : k + m ≤ n) :
    Calls Tryd.prog 38 #[.slice (some ⟨g, k * 6, none⟩) m c'] w fun e w' => e = .returned (.tuple #[]) ∧ OwnC w' B (.slice (some ⟨g, 0, none⟩) n c) (mended L k m) ∧ w.grownBy w' (some g) := by
  have HN := hide hn
  have H := hide h
  clear h hn
  go_enter Tryd.func38, Tryd.ntmps38
  go_wp2
  go_loopw [2] (fun iv wr => ∃ (i : Nat) (M : List Cl), iv = .int .i64 i ∧ i ≤ m ∧ Hid (MendTo L k m i M) ∧ Hid (OwnC wr B (.slice (some ⟨g, 0, none⟩) n c) M) ∧ Hid (w.grownBy wr (some g))) (fun iv _ => m - (intOf iv).toNat)
  case atStart => exact ⟨0, L, rfl, by omega, hide (mend_none L k m), H, hide (grown_below (Below.refl _ _) _)⟩
  case round =>
    clear H
    obtain ⟨i, M, rfl, hi, HM, H, HG⟩ := hrel
    by_cases hlt : i < m
    · have hMl : M.length = n := HM.out.1.trans HN.out
      obtain ⟨x, hx⟩ : ∃ x, M[k + i]? = some x := ⟨_, List.getElem?_eq_getElem (by omega)⟩
      obtain ⟨x0, x1, x2, x3, x4, x5⟩ := own_part H.out hx
      have hltz : (i : Int) < (m : Int) := by omega
      have HX := hide hx
      have HML := hide hMl
      have HST := hide (fun hh => mend_stay HM.out hlt (by rw [HN.out]; exact hk) hx hh)
      have HSB := hide (fun hh => mend_step (x := blankC) HM.out hlt (by rw [HN.out]; exact hk) hx hh)
      have hf := fun i => H.out.frozen i
      have HGL := hide H.out.inb
      clear hx hMl
      obtain ⟨r, wd, fg, bo, un, iv⟩ := x
      dsimp only at x0 x1 x2 x3 x4 x5
      rw [mend_cut] at HST HSB
      by_cases hw2 : wd = 2
      · subst hw2
        by_cases he : i + 1 = m
        · have hez : (i : Int) + 1 = (m : Int) := by omega
          have HS2 := hide (HSB.out (by simp [he]))
          clear HST HSB
          go_wp2_with (first | (go_at_call 31; refine (blank_any _).mono ?_; rintro e w2 ⟨rfl, hb2⟩; have HB2 := hide hb2; have H2 := hide (H.out.below hb2); obtain ⟨z0, z1, z2, z3, z4, z5⟩ := own_part H2.out HX.out; have hf2 := fun i => H2.out.frozen i; dsimp only at z0 z1 z2 z3 z4 z5; clear hb2; unfold clV blankC) | fail)
          go_roundw
          case rel => exact ⟨i + 1, M.set (k + i) blankC, by go_num, by omega, HS2, hide (own_set_part H2.out HML.out (by omega) blankC), hide ((HG.out.trans (grown_below HB2.out _)).trans (grown6 _ _ _ _ _ _ _ _ _ _ _ _ _ _))⟩
          case measure => simp [intOf]; omega
        have hez : ¬ (i : Int) + 1 = (m : Int) := by omega
        have hez2 : (i : Int) + 1 < (m : Int) := by omega
        obtain ⟨d, hd⟩ : ∃ d, M[k + (i + 1)]? = some d := ⟨_, List.getElem?_eq_getElem (by rw [HML.out]; omega)⟩
        obtain ⟨y0, y1, y2, y3, y4, y5⟩ := own_part H.out hd
        obtain ⟨r', wd', fg', bo', un', iv'⟩ := d
        dsimp only at y1
        clear y0 y2 y3 y4 y5
        have hd2 : M[k + i + 1]? = some ⟨r', wd', fg', bo', un', iv'⟩ := hd
        by_cases hz : wd' = 0
        · have HS2 := hide (HST.out (by rw [if_neg he, hd2]; simp [hz]))
          subst hz
          clear HST HSB hd hd2
          go_wp2
          go_roundw
          case rel => exact ⟨i + 1, M, by go_num, by omega, HS2, H, HG⟩
          case measure => simp [intOf]; omega
        · have HS2 := hide (HSB.out (by rw [if_neg he, hd2]; simp [hz]))
          have hzb : (wd' != 0) = true := by simp [hz]
          clear HST HSB hd hd2
          go_wp2_with (first | (go_at_call 31; refine (blank_any _).mono ?_; rintro e w2 ⟨rfl, hb2⟩; have HB2 := hide hb2; have H2 := hide (H.out.below hb2); obtain ⟨z0, z1, z2, z3, z4, z5⟩ := own_part H2.out HX.out; have hf2 := fun i => H2.out.frozen i; dsimp only at z0 z1 z2 z3 z4 z5; clear hb2; unfold clV blankC) | fail)
          go_roundw
          case rel => exact ⟨i + 1, M.set (k + i) blankC, by go_num, by omega, HS2, hide (own_set_part H2.out HML.out (by omega) blankC), hide ((HG.out.trans (grown_below HB2.out _)).trans (grown6 _ _ _ _ _ _ _ _ _ _ _ _ _ _))⟩
          case measure => simp [intOf]; omega
      by_cases hw0 : wd = 0
      · subst hw0
        by_cases h0 : i = 0
        · have HS2 := hide (HSB.out (by simp [h0]))
          clear HST HSB
          subst h0
          simp only [Nat.zero_mul, Nat.add_zero] at x0 x1 x2 x3 x4 x5
          go_wp2_with (first | (go_at_call 31; refine (blank_any _).mono ?_; rintro e w2 ⟨rfl, hb2⟩; have HB2 := hide hb2; have H2 := hide (H.out.below hb2); obtain ⟨z0, z1, z2, z3, z4, z5⟩ := own_part (j := 0) H2.out HX.out; dsimp only at z0 z1 z2 z3 z4 z5; rw [Nat.zero_mul, Nat.add_zero] at z0 z1 z2 z3 z4 z5; have hf2 := fun i => H2.out.frozen i; clear hb2; unfold clV blankC) | fail)
          go_roundw
          case rel => exact ⟨0 + 1, M.set (k + 0) blankC, by go_num, by omega, HS2, hide (by have h9 := own_set_part (k := k) (j := 0) H2.out HML.out (by omega) blankC; rw [Nat.zero_mul, Nat.add_zero] at h9; exact h9), hide ((HG.out.trans (grown_below HB2.out _)).trans (grown6 _ _ _ _ _ _ _ _ _ _ _ _ _ _))⟩
          case measure => simp [intOf]; omega
        obtain ⟨i', rfl⟩ : ∃ i', i = i' + 1 := ⟨i - 1, by omega⟩
        have h0z : ¬ ((i' : Int) + 1 = 0) := by omega
        have h0y : (i' : Int) < (m : Int) := by omega
        obtain ⟨d, hd⟩ : ∃ d, M[k + i']? = some d := ⟨_, List.getElem?_eq_getElem (by rw [HML.out]; omega)⟩
        obtain ⟨y0, y1, y2, y3, y4, y5⟩ := own_part H.out hd
        obtain ⟨r', wd', fg', bo', un', iv'⟩ := d
        dsimp only at y1
        clear y0 y2 y3 y4 y5
        have hd2 : M[k + (i' + 1) - 1]? = some ⟨r', wd', fg', bo', un', iv'⟩ := hd
        by_cases hz : wd' = 2
        · have HS2 := hide (HST.out (by rw [if_neg h0, hd2]; simp [hz]))
          subst hz
          clear HST HSB hd hd2
          go_wp2
          go_roundw
          case rel => exact ⟨i' + 1 + 1, M, by go_num, by omega, HS2, H, HG⟩
          case measure => simp [intOf]; omega
        · have HS2 := hide (HSB.out (by rw [if_neg h0, hd2]; simp [hz]))
          have hzb : (wd' != 2) = true := by simp [hz]
          clear HST HSB hd hd2
          go_wp2_with (first | (go_at_call 31; refine (blank_any _).mono ?_; rintro e w2 ⟨rfl, hb2⟩; have HB2 := hide hb2; have H2 := hide (H.out.below hb2); obtain ⟨z0, z1, z2, z3, z4, z5⟩ := own_part H2.out HX.out; have hf2 := fun i => H2.out.frozen i; dsimp only at z0 z1 z2 z3 z4 z5; clear hb2; unfold clV blankC) | fail)
          go_roundw
          case rel => exact ⟨i' + 1 + 1, M.set (k + (i' + 1)) blankC, by go_num, by omega, HS2, hide (own_set_part H2.out HML.out (by omega) blankC), hide ((HG.out.trans (grown_below HB2.out _)).trans (grown6 _ _ _ _ _ _ _ _ _ _ _ _ _ _))⟩
          case measure => simp [intOf]; omega
      have HS2 := hide (HST.out (by rw [if_neg hw2, if_neg hw0]))
      clear HST HSB
      go_wp2
      go_roundw
      case rel => exact ⟨i + 1, M, by go_num, by omega, HS2, H, HG⟩
      case measure => simp [intOf]; omega
    · obtain rfl : i = m := by omega
      go_wp2
      go_end0
      exact ⟨rfl, by rw [← mend_done (by rw [HN.out]; exact hk) HM.out]; exact H.out, HG.out⟩
end Go.Proofs.YtojjdckpbmjjdaaDoor
