/- Contract of limnerref06.mend. Plain: a frame with a rune put in. No program in sight. What Put of both sides shares: the frame, the style and the answer in their boxes; a frame whose slice the call made, laid open. Plain: a frame in another size. No program in sight. -/
import Derived.Test.YtmemdhmjhckmaaaDoorZ6
import Derived.Test.YtmemdhmjhckmaaaDoorZ3
import Derived.Test.YtmemdhmjhckmaaaDoorZ4
namespace Go.Proofs.YtmemdhmjhckmaaaDoor
open Go.RowKit

theorem mendL_step (l : List Cl) (p : Option Cl) (j : Nat) : (mendL p l)[j]? = l[j]?.map fun c => mendAt (if j = 0 then p else (mendL p l)[j - 1]?) c l[j + 1]? := by
  induction l generalizing p j with
  | nil => simp [mendL]
  | cons a t ih =>
    rw [mendL]
    cases j with
    | zero => simp [List.head?_eq_getElem?]
    | succ j =>
      rw [List.getElem?_cons_succ, ih, List.getElem?_cons_succ, List.getElem?_cons_succ, Nat.add_sub_cancel, if_neg (Nat.succ_ne_zero j)]
      cases j with
      | zero => simp
      | succ j => simp
/-- The part of m cells from k on, of which the first i are mended. -/
def MendTo (L : List Cl) (k m i : Nat) (M : List Cl) : Prop := M.length = L.length ∧ ∀ j, M[j]? = if k ≤ j ∧ j < k + i then (mendL none ((L.drop k).take m))[j - k]? else L[j]?
def mended (L : List Cl) (k m : Nat) : List Cl := L.take k ++ mendL none ((L.drop k).take m) ++ L.drop (k + m)
theorem mend_none (L : List Cl) (k m : Nat) : MendTo L k m 0 L := ⟨rfl, fun j => by rw [if_neg (by omega)]⟩
theorem mend_done {L M : List Cl} {k m : Nat} (hk : k + m ≤ L.length) (h : MendTo L k m m M) : M = mended L k m := by
  apply List.ext_getElem?
  intro j
  rw [h.2 j]
  have e1 : (L.take k).length = k := by rw [List.length_take]; omega
  have e2 : (mendL none ((L.drop k).take m)).length = m := by rw [mend_len, List.length_take, List.length_drop]; omega
  unfold mended
  by_cases a : j < k
  · rw [if_neg (by omega), List.append_assoc, List.getElem?_append_left (by omega), List.getElem?_take_of_lt a]
  by_cases b : j < k + m
  · rw [if_pos (by omega), List.getElem?_append_left (by rw [List.length_append]; omega), List.getElem?_append_right (by omega), e1]
  · rw [if_neg (by omega), List.getElem?_append_right (by rw [List.length_append]; omega), List.length_append, e1, e2, List.getElem?_drop]
    congr 1
    omega
theorem part_at {L : List Cl} {k m j : Nat} (h : j < m) : ((L.drop k).take m)[j]? = L[k + j]? := by
  rw [List.getElem?_take_of_lt h, List.getElem?_drop]
theorem part_end {L : List Cl} {k m j : Nat} (h : m ≤ j) : ((L.drop k).take m)[j]? = none := List.getElem?_take_eq_none h
/-- One cell on. -/
theorem mend_step {L M : List Cl} {k m i : Nat} (h : MendTo L k m i M) (hi : i < m) (hk : k + m ≤ L.length) {c : Cl} (hc : M[k + i]? = some c) {x : Cl}
    (hx : mendAt (if i = 0 then none else M[k + i - 1]?) c (if i + 1 = m then none else M[k + i + 1]?) = x) : MendTo L k m (i + 1) (M.set (k + i) x) := by
  have hl : L[k + i]? = some c := by rw [← hc, h.2, if_neg (by omega)]
  have hm : (mendL none ((L.drop k).take m))[i]? = some x := by
    rw [mendL_step, part_at hi, hl, Option.map_some, ← hx]
    congr 2
    · by_cases h0 : i = 0
      · rw [if_pos h0, if_pos h0]
      · rw [if_neg h0, if_neg h0, h.2, if_pos (by omega), show k + i - 1 - k = i - 1 by omega]
    · by_cases h1 : i + 1 = m
      · rw [if_pos h1, part_end (by omega)]
      · rw [if_neg h1, part_at (by omega), h.2, if_neg (by omega)]; rfl
  refine ⟨by rw [List.length_set]; exact h.1, fun j => ?_⟩
  rw [List.getElem?_set, h.1]
  by_cases e : k + i = j
  · subst e
    rw [if_pos rfl, if_pos (by omega), if_pos (by omega), show k + i - k = i by omega, hm]
  · rw [if_neg e, h.2]
    by_cases a : k ≤ j ∧ j < k + i
    · rw [if_pos a, if_pos (by omega)]
    · rw [if_neg a, if_neg (by omega)]
theorem mend_stay {L M : List Cl} {k m i : Nat} (h : MendTo L k m i M) (hi : i < m) (hk : k + m ≤ L.length) {c : Cl} (hc : M[k + i]? = some c)
    (hx : mendAt (if i = 0 then none else M[k + i - 1]?) c (if i + 1 = m then none else M[k + i + 1]?) = c) : MendTo L k m (i + 1) M := by
  have := mend_step h hi hk hc hx
  have e : M.set (k + i) c = M := by
    apply List.ext_getElem?
    intro j
    rw [List.getElem?_set]
    by_cases e : k + i = j
    · subst e; rw [if_pos rfl, if_pos (by rw [h.1]; omega), hc]
    · rw [if_neg e]
  rwa [e] at this
/-- The part of a slice of the call's own, cell by cell. -/
theorem own_part {W : World} {B g n c : Nat} {L : List Cl} (h : OwnC W B (.slice (some ⟨g, 0, none⟩) n c) L) {k j : Nat} {x : Cl} (hx : L[k + j]? = some x) :
    W.cell? ⟨g, k * 6 + j * 6, none⟩ = some (.int .i32 x.r) ∧ W.cell? ⟨g, k * 6 + j * 6 + 1, none⟩ = some (.int .i64 x.w) ∧ W.cell? ⟨g, k * 6 + j * 6 + 2, none⟩ = some (.int .i64 x.fg) ∧ W.cell? ⟨g, k * 6 + j * 6 + 3, none⟩ = some (.bool x.bo) ∧ W.cell? ⟨g, k * 6 + j * 6 + 4, none⟩ = some (.bool x.un) ∧ W.cell? ⟨g, k * 6 + j * 6 + 5, none⟩ = some (.bool x.iv) := by
  have := h.cls.get hx
  rw [Nat.add_mul, Nat.zero_add] at this
  exact this
theorem own_set_part {W : World} {B g n c : Nat} {L : List Cl} (h : OwnC W B (.slice (some ⟨g, 0, none⟩) n c) L) (hn : L.length = n) {k j : Nat} (hj : k + j < n) (x : Cl) :
    OwnC ((((((W.setCell ⟨g, k * 6 + j * 6, none⟩ (.int .i32 x.r)).setCell ⟨g, k * 6 + j * 6 + 1, none⟩ (.int .i64 x.w)).setCell ⟨g, k * 6 + j * 6 + 2, none⟩ (.int .i64 x.fg)).setCell ⟨g, k * 6 + j * 6 + 3, none⟩ (.bool x.bo)).setCell ⟨g, k * 6 + j * 6 + 4, none⟩ (.bool x.un)).setCell ⟨g, k * 6 + j * 6 + 5, none⟩ (.bool x.iv)) B (.slice (some ⟨g, 0, none⟩) n c) (L.set (k + j) x) := by
  rw [← Nat.add_mul]
  exact own_set6 h hn hj x
theorem OwnC.under {w W : World} {B C g n c : Nat} {L : List Cl} (h : OwnC w B (.slice (some ⟨g, 0, none⟩) n c) L) (hb : Below C w W) (hg : g < C) : OwnC W B (.slice (some ⟨g, 0, none⟩) n c) L := by
  refine ⟨h.1, ?_⟩
  rcases h.2 with h0 | ⟨g', cap, cur, e, hg', hh, q⟩
  · exact .inl h0
  · injection e with e e2; injection e with e; injection e with e; subst e
    refine .inr ⟨g, cap, cur, ?_, hg', (hb.block g hg).trans hh, q⟩
    rw [← e2]
    congr 1
theorem OwnC.inb {W : World} {B g n c : Nat} {L : List Cl} (h : OwnC W B (.slice (some ⟨g, 0, none⟩) n c) L) : g < W.heap.size := by
  rcases h.2 with ⟨e, h0⟩ | ⟨g', cap, cur, e, hg, hh, r⟩
  · cases e
  · injection e with e; injection e with e; injection e with e; subst e
    exact (Array.getElem?_eq_some_iff.1 hh).1
theorem grown_below {w W : World} (h : Below w.heap.size w W) (g : Option Nat) : w.grownBy W g := ⟨h.os, h.tape, h.output, h.size, fun k hk _ => h.block k hk⟩
theorem mend_cut (p : Option Cl) (c : Cl) (n : Option Cl) : mendAt p c n = if c.w = 2 then (if n.all (fun d => decide (d.w ≠ 0)) = true then blankC else c) else if c.w = 0 then (if p.all (fun d => decide (d.w ≠ 2)) = true then blankC else c) else c := by
  unfold mendAt
  by_cases h2 : c.w = 2
  · have h0 : ¬ c.w = 0 := by omega
    rw [if_pos h2]
    simp only [h2, true_and, show ¬ ((2 : Int) = 0) by omega, false_and, or_false]
  · rw [if_neg h2]
    by_cases h0 : c.w = 0
    · rw [if_pos h0]
      simp only [h0, true_and, show ¬ ((0 : Int) = 2) by omega, false_and, false_or]
    · rw [if_neg h0, if_neg (by simp [h2, h0])]
set_option maxRecDepth 100000 in
set_option maxHeartbeats 2000000 in
theorem mend_any (g n c B k m c' : Nat) (L : List Cl) (w : World) (h : OwnC w B (.slice (some ⟨g, 0, none⟩) n c) L) (hn : L.length = n) (hc : n ≤ 20000) (hk : k + m ≤ n) :
    Calls Tryd.prog 89 #[.slice (some ⟨g, k * 6, none⟩) m c'] w fun e w' => e = .returned (.tuple #[]) ∧ OwnC w' B (.slice (some ⟨g, 0, none⟩) n c) (mended L k m) ∧ w.grownBy w' (some g) := by
  have HN := hide hn
  have H := hide h
  clear h hn
  go_enter Tryd.func89, Tryd.ntmps89
  go_wp2
  go_loopw [2] (fun iv wr => ∃ (i : Nat) (M : List Cl), iv = .int .i64 i ∧ i ≤ m ∧ Hid (MendTo L k m i M) ∧ Hid (OwnC wr B (.slice (some ⟨g, 0, none⟩) n c) M) ∧ Hid (w.grownBy wr (some g))) (fun iv _ => m - (intOf iv).toNat)
  case atStart => exact ⟨0, L, rfl, by omega, hide (mend_none L k m), H, hide (grown_below (Below.refl _ _) _)⟩
  case round =>
    clear H
    obtain ⟨i, M, rfl, hi, HM, H, HG⟩ := hrel
    by_cases hlt : i < m
    · have hMl : M.length = n := HM.out.1.trans HN.out
      obtain ⟨x, hx⟩ : ∃ x, M[k + i]? = some x := ⟨_, List.getElem?_eq_getElem (by omega)⟩
      obtain ⟨x0, x1, x2, x3, x4, x5⟩ := own_part H.out hx
      have hltz : (i : Int) < (m : Int) := by omega
      have HX := hide hx
      have HML := hide hMl
      have HST := hide (fun hh => mend_stay HM.out hlt (by rw [HN.out]; exact hk) hx hh)
      have HSB := hide (fun hh => mend_step (x := blankC) HM.out hlt (by rw [HN.out]; exact hk) hx hh)
      have hf := fun i => H.out.frozen i
      have HGL := hide H.out.inb
      clear hx hMl
      obtain ⟨r, wd, fg, bo, un, iv⟩ := x
      dsimp only at x0 x1 x2 x3 x4 x5
      rw [mend_cut] at HST HSB
      by_cases hw2 : wd = 2
      · subst hw2
        by_cases he : i + 1 = m
        · have hez : (i : Int) + 1 = (m : Int) := by omega
          have HS2 := hide (HSB.out (by simp [he]))
          clear HST HSB
          go_wp2_with (first | (go_at_call 48; refine (blank_any _).mono ?_; rintro e w2 ⟨rfl, hb2⟩; have HB2 := hide hb2; have H2 := hide (H.out.below hb2); obtain ⟨z0, z1, z2, z3, z4, z5⟩ := own_part H2.out HX.out; have hf2 := fun i => H2.out.frozen i; dsimp only at z0 z1 z2 z3 z4 z5; clear hb2; unfold clV blankC) | fail)
          go_roundw
          case rel => exact ⟨i + 1, M.set (k + i) blankC, by go_num, by omega, HS2, hide (own_set_part H2.out HML.out (by omega) blankC), hide ((HG.out.trans (grown_below HB2.out _)).trans (grown6 _ _ _ _ _ _ _ _ _ _ _ _ _ _))⟩
          case measure => simp [intOf]; omega
        have hez : ¬ (i : Int) + 1 = (m : Int) := by omega
        have hez2 : (i : Int) + 1 < (m : Int) := by omega
        obtain ⟨d, hd⟩ : ∃ d, M[k + (i + 1)]? = some d := ⟨_, List.getElem?_eq_getElem (by rw [HML.out]; omega)⟩
        obtain ⟨y0, y1, y2, y3, y4, y5⟩ := own_part H.out hd
        obtain ⟨r', wd', fg', bo', un', iv'⟩ := d
        dsimp only at y1
        clear y0 y2 y3 y4 y5
        have hd2 : M[k + i + 1]? = some ⟨r', wd', fg', bo', un', iv'⟩ := hd
        by_cases hz : wd' = 0
        · have HS2 := hide (HST.out (by rw [if_neg he, hd2]; simp [hz]))
          subst hz
          clear HST HSB hd hd2
          go_wp2
          go_roundw
          case rel => exact ⟨i + 1, M, by go_num, by omega, HS2, H, HG⟩
          case measure => simp [intOf]; omega
        · have HS2 := hide (HSB.out (by rw [if_neg he, hd2]; simp [hz]))
          have hzb : (wd' != 0) = true := by simp [hz]
          clear HST HSB hd hd2
          go_wp2_with (first | (go_at_call 48; refine (blank_any _).mono ?_; rintro e w2 ⟨rfl, hb2⟩; have HB2 := hide hb2; have H2 := hide (H.out.below hb2); obtain ⟨z0, z1, z2, z3, z4, z5⟩ := own_part H2.out HX.out; have hf2 := fun i => H2.out.frozen i; dsimp only at z0 z1 z2 z3 z4 z5; clear hb2; unfold clV blankC) | fail)
          go_roundw
          case rel => exact ⟨i + 1, M.set (k + i) blankC, by go_num, by omega, HS2, hide (own_set_part H2.out HML.out (by omega) blankC), hide ((HG.out.trans (grown_below HB2.out _)).trans (grown6 _ _ _ _ _ _ _ _ _ _ _ _ _ _))⟩
          case measure => simp [intOf]; omega
      by_cases hw0 : wd = 0
      · subst hw0
        by_cases h0 : i = 0
        · have HS2 := hide (HSB.out (by simp [h0]))
          clear HST HSB
          subst h0
          simp only [Nat.zero_mul, Nat.add_zero] at x0 x1 x2 x3 x4 x5
          go_wp2_with (first | (go_at_call 48; refine (blank_any _).mono ?_; rintro e w2 ⟨rfl, hb2⟩; have HB2 := hide hb2; have H2 := hide (H.out.below hb2); obtain ⟨z0, z1, z2, z3, z4, z5⟩ := own_part (j := 0) H2.out HX.out; dsimp only at z0 z1 z2 z3 z4 z5; rw [Nat.zero_mul, Nat.add_zero] at z0 z1 z2 z3 z4 z5; have hf2 := fun i => H2.out.frozen i; clear hb2; unfold clV blankC) | fail)
          go_roundw
          case rel => exact ⟨0 + 1, M.set (k + 0) blankC, by go_num, by omega, HS2, hide (by have h9 := own_set_part (k := k) (j := 0) H2.out HML.out (by omega) blankC; rw [Nat.zero_mul, Nat.add_zero] at h9; exact h9), hide ((HG.out.trans (grown_below HB2.out _)).trans (grown6 _ _ _ _ _ _ _ _ _ _ _ _ _ _))⟩
          case measure => simp [intOf]; omega
        obtain ⟨i', rfl⟩ : ∃ i', i = i' + 1 := ⟨i - 1, by omega⟩
        have h0z : ¬ ((i' : Int) + 1 = 0) := by omega
        have h0y : (i' : Int) < (m : Int) := by omega
        obtain ⟨d, hd⟩ : ∃ d, M[k + i']? = some d := ⟨_, List.getElem?_eq_getElem (by rw [HML.out]; omega)⟩
        obtain ⟨y0, y1, y2, y3, y4, y5⟩ := own_part H.out hd
        obtain ⟨r', wd', fg', bo', un', iv'⟩ := d
        dsimp only at y1
        clear y0 y2 y3 y4 y5
        have hd2 : M[k + (i' + 1) - 1]? = some ⟨r', wd', fg', bo', un', iv'⟩ := hd
        by_cases hz : wd' = 2
        · have HS2 := hide (HST.out (by rw [if_neg h0, hd2]; simp [hz]))
          subst hz
          clear HST HSB hd hd2
          go_wp2
          go_roundw
          case rel => exact ⟨i' + 1 + 1, M, by go_num, by omega, HS2, H, HG⟩
          case measure => simp [intOf]; omega
        · have HS2 := hide (HSB.out (by rw [if_neg h0, hd2]; simp [hz]))
          have hzb : (wd' != 2) = true := by simp [hz]
          clear HST HSB hd hd2
          go_wp2_with (first | (go_at_call 48; refine (blank_any _).mono ?_; rintro e w2 ⟨rfl, hb2⟩; have HB2 := hide hb2; have H2 := hide (H.out.below hb2); obtain ⟨z0, z1, z2, z3, z4, z5⟩ := own_part H2.out HX.out; have hf2 := fun i => H2.out.frozen i; dsimp only at z0 z1 z2 z3 z4 z5; clear hb2; unfold clV blankC) | fail)
          go_roundw
          case rel => exact ⟨i' + 1 + 1, M.set (k + (i' + 1)) blankC, by go_num, by omega, HS2, hide (own_set_part H2.out HML.out (by omega) blankC), hide ((HG.out.trans (grown_below HB2.out _)).trans (grown6 _ _ _ _ _ _ _ _ _ _ _ _ _ _))⟩
          case measure => simp [intOf]; omega
      have HS2 := hide (HST.out (by rw [if_neg hw2, if_neg hw0]))
      clear HST HSB
      go_wp2
      go_roundw
      case rel => exact ⟨i + 1, M, by go_num, by omega, HS2, H, HG⟩
      case measure => simp [intOf]; omega
    · obtain rfl : i = m := by omega
      go_wp2
      go_end0
      exact ⟨rfl, by rw [← mend_done (by rw [HN.out]; exact hk) HM.out]; exact H.out, HG.out⟩
end Go.Proofs.YtmemdhmjhckmaaaDoor
namespace Go.Proofs.YtmemdhmjhckmaaaDoor

/-- The cell of a rune in a style. -/
def inkC (x : Cl) : Cl := ⟨x.r, cells x.r, x.fg, x.bo, x.un, x.iv⟩
/-- Is there anything to be put in? -/
def okP (f : Fr) (row col : Int) (x : Cl) : Bool := decide (cells x.r ≠ 0) && styC x && decide (0 ≤ row ∧ row < f.rows ∧ 0 ≤ col ∧ col + cells x.r ≤ f.cols)
def putF (f : Fr) (row col : Int) (x : Cl) : Fr :=
  if validF f = true then if okP f row col x = true then ⟨f.rows, f.cols, putL f.cs (row * f.cols + col).toNat (cells x.r).toNat (inkC x), f.row, f.col⟩ else f else noF
/-- What is known of a frame that may be. -/
theorem valid_facts {f : Fr} (h : validF f = true) : ∃ R C : Nat, f.rows = R ∧ f.cols = C ∧ 2 ≤ R ∧ R ≤ 100 ∧ 8 ≤ C ∧ C ≤ 200 ∧ f.cs.length = R * C ∧ 0 ≤ f.row ∧ f.row < R ∧ 0 ≤ f.col ∧ f.col < C ∧ validL f.cs R C = true := by
  unfold validF mayB sizeB curB at h
  simp only [Bool.and_eq_true, decide_eq_true_eq] at h
  obtain ⟨⟨⟨⟨m1, m2, m3, m4⟩, hs⟩, c1, c2, c3, c4⟩, hv⟩ := h
  obtain ⟨R, hR⟩ : ∃ R : Nat, f.rows = R := ⟨f.rows.toNat, by omega⟩
  obtain ⟨C, hC⟩ : ∃ C : Nat, f.cols = C := ⟨f.cols.toNat, by omega⟩
  rw [hR, hC] at hs hv
  rw [hR] at m1 m2 c2
  rw [hC] at m3 m4 c4
  refine ⟨R, C, hR, hC, by omega, by omega, by omega, by omega, by exact_mod_cast hs, c1, c2, c3, c4, ?_⟩
  simpa using hv
theorem frame_of {R C : Nat} {cs : List Cl} {row col : Int} (h1 : 2 ≤ R) (h2 : R ≤ 100) (h3 : 8 ≤ C) (h4 : C ≤ 200) (hs : cs.length = R * C) (hc : 0 ≤ row ∧ row < R ∧ 0 ≤ col ∧ col < C) (hv : validL cs R C = true) : validF ⟨R, C, cs, row, col⟩ = true := by
  unfold validF mayB sizeB curB
  simp only [Bool.and_eq_true, decide_eq_true_eq, Int.toNat_natCast]
  exact ⟨⟨⟨by omega, by exact_mod_cast hs⟩, hc⟩, hv⟩
theorem size_small {R C : Nat} (h1 : 2 ≤ R) (h2 : R ≤ 100) (h3 : 8 ≤ C) (h4 : C ≤ 200) : 16 ≤ R * C ∧ R * C ≤ 20000 :=
  ⟨Nat.mul_le_mul h1 h3, Nat.mul_le_mul h2 h4⟩
theorem spot_in {R C k j : Nat} (hk : k < R) (hj : j < C) : k * C + j < R * C := by
  have : (k + 1) * C ≤ R * C := Nat.mul_le_mul_right _ hk
  rw [Nat.add_mul, Nat.one_mul] at this
  omega
theorem wipe_next {l : List Cl} (h : rowB l = true) {i : Nat} (hi : i + 2 ≤ l.length) : ∃ y, (wipeL l i)[i + 1]? = some y ∧ (y.w = 2 → i + 1 + 1 < l.length) := by
  have hx := List.getElem?_eq_getElem (show i < l.length by omega)
  have hy := List.getElem?_eq_getElem (show i + 1 < l.length by omega)
  obtain ⟨g1, g2, g3⟩ := row_facts h (i + 1) _ hy
  refine ⟨if l[i].w = 2 then blankC else l[i + 1], ?_, fun h2 => ?_⟩
  · unfold wipeL
    rw [getD_some hx]
    by_cases h2 : l[i].w = 2
    · rw [if_pos h2, if_pos h2]; simp [List.getElem?_set]; omega
    · rw [if_neg h2, if_neg h2]
      split
      · simp only [List.getElem?_set]; simp [show ¬ i - 1 = i + 1 by omega, hy]
      · simp only [List.getElem?_set]; simp [hy]
  · by_cases h9 : l[i].w = 2
    · rw [if_pos h9] at h2; cases h2
    · rw [if_neg h9] at h2
      obtain ⟨d, hd, _⟩ := g2 h2
      exact (List.getElem?_eq_some_iff.1 hd).1
theorem putL_1 (L : List Cl) (i : Nat) (c : Cl) : putL L i 1 c = (wipeL L i).set i c := by unfold putL; rw [if_neg (by omega)]
theorem putL_2 (L : List Cl) (i : Nat) (c : Cl) : putL L i 2 c = ((wipeL (wipeL L i) (i + 1)).set (i + 1) (halfC c)).set i c := by unfold putL; rw [if_pos rfl]
theorem replR_self {L : List Cl} {R C k : Nat} (hL : L.length = R * C) (hk : k < R) : replR L C k (rowL L C k) = L := by
  apply List.ext_getElem?
  intro j
  rw [replR_at hL hk (rowL_len hL hk)]
  have h2 : (k + 1) * C = k * C + C := by rw [Nat.add_mul, Nat.one_mul]
  split
  · rw [rowL_at (by omega), show k * C + (j - k * C) = j by omega]
  · rfl
theorem replR_len {L l : List Cl} {R C k : Nat} (hL : L.length = R * C) (hk : k < R) (hl : l.length = C) : (replR L C k l).length = R * C := by
  have h1 : (k + 1) * C ≤ R * C := Nat.mul_le_mul_right _ hk
  have h2 : (k + 1) * C = k * C + C := by rw [Nat.add_mul, Nat.one_mul]
  unfold replR
  rw [List.length_append, List.length_append, List.length_take, List.length_drop, hl, hL]
  omega
theorem replR_set {L l : List Cl} {R C k i : Nat} (hL : L.length = R * C) (hk : k < R) (hl : l.length = C) (hi : i < C) (x : Cl) : (replR L C k l).set (k * C + i) x = replR L C k (l.set i x) := by
  have h2 : (k + 1) * C = k * C + C := by rw [Nat.add_mul, Nat.one_mul]
  have h3 := spot_in hk hi
  apply List.ext_getElem?
  intro j
  rw [List.getElem?_set, replR_len hL hk hl, replR_at hL hk (l := l.set i x) (by rw [List.length_set]; exact hl), replR_at hL hk hl, List.getElem?_set, hl]
  by_cases e : k * C + i = j
  · subst e
    rw [if_pos rfl, if_pos h3, if_pos (by omega), if_pos (by omega), if_pos hi]
  · rw [if_neg e]
    split
    · rw [if_neg (by omega)]
    · rfl
theorem replR_part {L l : List Cl} {R C k : Nat} (hL : L.length = R * C) (hk : k < R) (hl : l.length = C) : ((replR L C k l).drop (k * C)).take C = l := by
  have h1 : (k + 1) * C ≤ R * C := Nat.mul_le_mul_right _ hk
  have h2 : (k + 1) * C = k * C + C := by rw [Nat.add_mul, Nat.one_mul]
  apply List.ext_getElem?
  intro j
  by_cases hj : j < C
  · rw [List.getElem?_take_of_lt hj, List.getElem?_drop, replR_at hL hk hl, if_pos (by omega), show k * C + j - k * C = j by omega]
  · rw [List.getElem?_take_eq_none (by omega), List.getElem?_eq_none (by omega)]
theorem replR_repl {L l m : List Cl} {R C k : Nat} (hL : L.length = R * C) (hk : k < R) (hl : l.length = C) : replR (replR L C k l) C k m = replR L C k m := by
  have h1 : (k + 1) * C ≤ R * C := Nat.mul_le_mul_right _ hk
  have h2 : (k + 1) * C = k * C + C := by rw [Nat.add_mul, Nat.one_mul]
  have e1 : (L.take (k * C)).length = k * C := by rw [List.length_take]; omega
  have a : (replR L C k l).take (k * C) = L.take (k * C) := by
    unfold replR
    rw [List.append_assoc, List.take_append_of_le_length (by omega), List.take_of_length_le (by omega)]
  have b : (replR L C k l).drop ((k + 1) * C) = L.drop ((k + 1) * C) := by
    unfold replR
    rw [List.drop_append_of_le_length (by rw [List.length_append]; omega), List.drop_eq_nil_of_le (by rw [List.length_append]; omega), List.nil_append]
  show _ ++ m ++ _ = _
  rw [a, b]
  rfl
theorem blank_1 (l : List Cl) (i : Nat) : blankN l i 1 = l.set i blankC := by unfold blankN; rw [if_neg (by omega)]
theorem blank_2 (l : List Cl) (i : Nat) : blankN l i 2 = (l.set i blankC).set (i + 1) blankC := by unfold blankN; rw [if_pos rfl]
end Go.Proofs.YtmemdhmjhckmaaaDoor
namespace Go.Proofs.YtmemdhmjhckmaaaDoor
open Go.RowKit

/-- A frame is stored in its box. -/
def frSet (W : World) (z : Nat) (a b : Int) (s : Value) (c d : Int) : World := ((((W.setCell ⟨z, 0, none⟩ (.int .i64 a)).setCell ⟨z, 1, none⟩ (.int .i64 b)).setCell ⟨z, 2, none⟩ s).setCell ⟨z, 3, none⟩ (.int .i64 c)).setCell ⟨z, 4, none⟩ (.int .i64 d)
theorem fr_put {W : World} {z : Nat} {a b c d : Int} {s : Value} (h : Blk W z 35 (frCells a b s c d)) (a' b' : Int) (s' : Value) (c' d' : Int) : Blk (frSet W z a' b' s' c' d') z 35 (frCells a' b' s' c' d') :=
  ((((h.set 0 _).set 1 _).set 2 _).set 3 _).set 4 _
theorem fr_far {W : World} {k z : Nat} {t : TypeId} {cs : List Value} (h : Blk W k t cs) (hz : z ≠ k) (a b : Int) (s : Value) (c d : Int) : Blk (frSet W z a b s c d) k t cs :=
  ((((h.far (p := ⟨z, 0, none⟩) hz _).far (p := ⟨z, 1, none⟩) hz _).far (p := ⟨z, 2, none⟩) hz _).far (p := ⟨z, 3, none⟩) hz _).far (p := ⟨z, 4, none⟩) hz _
theorem fr_low {W : World} {B z : Nat} {v : Value} {L : List Cl} (h : OwnC W B v L) (hz : z < B) (a b : Int) (s : Value) (c d : Int) : OwnC (frSet W z a b s c d) B v L :=
  ((((h.low (p := ⟨z, 0, none⟩) hz _).low (p := ⟨z, 1, none⟩) hz _).low (p := ⟨z, 2, none⟩) hz _).low (p := ⟨z, 3, none⟩) hz _).low (p := ⟨z, 4, none⟩) hz _
theorem fr_below {w W : World} {B z : Nat} (h : Below B w W) (hz : B ≤ z) (a b : Int) (s : Value) (c d : Int) : Below B w (frSet W z a b s c d) :=
  ((((h.setCell (p := ⟨z, 0, none⟩) hz _).setCell (p := ⟨z, 1, none⟩) hz _).setCell (p := ⟨z, 2, none⟩) hz _).setCell (p := ⟨z, 3, none⟩) hz _).setCell (p := ⟨z, 4, none⟩) hz _
theorem fr_reads {W : World} {z : Nat} {a b c d : Int} {s : Value} (h : Blk W z 35 (frCells a b s c d)) : W.cell? ⟨z, 0, none⟩ = some (.int .i64 a) ∧ W.cell? ⟨z, 1, none⟩ = some (.int .i64 b) ∧ W.cell? ⟨z, 2, none⟩ = some s ∧ W.cell? ⟨z, 3, none⟩ = some (.int .i64 c) ∧ W.cell? ⟨z, 4, none⟩ = some (.int .i64 d) ∧ ∀ i, W.frozen? ⟨z, i, none⟩ = false :=
  ⟨h.cell (i := 0) rfl, h.cell (i := 1) rfl, h.cell (i := 2) rfl, h.cell (i := 3) rfl, h.cell (i := 4) rfl, fun i => h.frozen i⟩
def styCells (fg : Int) (bo un iv : Bool) : List Value := [.int .i64 fg, .bool bo, .bool un, .bool iv]
theorem sty_reads {W : World} {z : Nat} {fg : Int} {bo un iv : Bool} (h : Blk W z 38 (styCells fg bo un iv)) : W.cell? ⟨z, 0, none⟩ = some (.int .i64 fg) ∧ W.cell? ⟨z, 1, none⟩ = some (.bool bo) ∧ W.cell? ⟨z, 2, none⟩ = some (.bool un) ∧ W.cell? ⟨z, 3, none⟩ = some (.bool iv) :=
  ⟨h.cell (i := 0) rfl, h.cell (i := 1) rfl, h.cell (i := 2) rfl, h.cell (i := 3) rfl⟩
/-- The three boxes. -/
def Bx3 (W : World) (z : Nat) (a b : Int) (s : Value) (c d fg : Int) (bo un iv : Bool) : Prop := Blk W z 35 (frCells a b s c d) ∧ Blk W (z + 1) 38 (styCells fg bo un iv) ∧ Blk W (z + 1 + 1) 35 (frCells 0 0 (.slice none 0 0) 0 0)
theorem bx_new (w : World) (a b : Int) (s : Value) (c d fg : Int) (bo un iv : Bool) : Bx3 (((w.alloc (.cells (frCells a b s c d).toArray 35)).alloc (.cells (styCells fg bo un iv).toArray 38)).alloc (.cells (frCells 0 0 (.slice none 0 0) 0 0).toArray 35)) w.heap.size a b s c d fg bo un iv := by
  have h1 := Blk.new (w.alloc (.cells (frCells a b s c d).toArray 35)) 38 (styCells fg bo un iv)
  have h2 := Blk.new ((w.alloc (.cells (frCells a b s c d).toArray 35)).alloc (.cells (styCells fg bo un iv).toArray 38)) 35 (frCells 0 0 (.slice none 0 0) 0 0)
  rw [World.size_alloc] at h1
  rw [World.size_alloc, World.size_alloc] at h2
  exact ⟨((Blk.new w _ _).alloc _).alloc _, h1.alloc _, h2⟩
theorem Bx3.below {W W' : World} {z : Nat} {a b c d fg : Int} {s : Value} {bo un iv : Bool} (h : Bx3 W z a b s c d fg bo un iv) (hb : Below W.heap.size W W') : Bx3 W' z a b s c d fg bo un iv := ⟨h.1.below hb, h.2.1.below hb, h.2.2.below hb⟩
theorem Blk.grown {W W' : World} {z g : Nat} {t : TypeId} {cs : List Value} (h : Blk W z t cs) (hg : W.grownBy W' (some g)) (hne : z ≠ g) : Blk W' z t cs := (hg.block z h.lt (fun e => hne (Option.some.inj e))).trans h
theorem Bx3.grown {W W' : World} {z g : Nat} {a b c d fg : Int} {s : Value} {bo un iv : Bool} (h : Bx3 W z a b s c d fg bo un iv) (hg : W.grownBy W' (some g)) (hz : z + 1 + 1 < g) : Bx3 W' z a b s c d fg bo un iv := ⟨h.1.grown hg (by omega), h.2.1.grown hg (by omega), h.2.2.grown hg (by omega)⟩
theorem Bx3.put {W : World} {z : Nat} {a b c d fg : Int} {s : Value} {bo un iv : Bool} (h : Bx3 W z a b s c d fg bo un iv) (a' b' : Int) (s' : Value) (c' d' : Int) : Bx3 (frSet W z a' b' s' c' d') z a' b' s' c' d' fg bo un iv :=
  ⟨fr_put h.1 _ _ _ _ _, fr_far h.2.1 (by omega) _ _ _ _ _, fr_far h.2.2 (by omega) _ _ _ _ _⟩
theorem Bx3.reads {W : World} {z : Nat} {a b c d fg : Int} {s : Value} {bo un iv : Bool} (h : Bx3 W z a b s c d fg bo un iv) :
    (W.cell? ⟨z, 0, none⟩ = some (.int .i64 a) ∧ W.cell? ⟨z, 1, none⟩ = some (.int .i64 b) ∧ W.cell? ⟨z, 2, none⟩ = some s ∧ W.cell? ⟨z, 3, none⟩ = some (.int .i64 c) ∧ W.cell? ⟨z, 4, none⟩ = some (.int .i64 d) ∧ ∀ i, W.frozen? ⟨z, i, none⟩ = false) ∧
    (W.cell? ⟨z + 1, 0, none⟩ = some (.int .i64 fg) ∧ W.cell? ⟨z + 1, 1, none⟩ = some (.bool bo) ∧ W.cell? ⟨z + 1, 2, none⟩ = some (.bool un) ∧ W.cell? ⟨z + 1, 3, none⟩ = some (.bool iv)) ∧
    (W.cell? ⟨z + 1 + 1, 0, none⟩ = some (.int .i64 0) ∧ W.cell? ⟨z + 1 + 1, 1, none⟩ = some (.int .i64 0) ∧ W.cell? ⟨z + 1 + 1, 2, none⟩ = some (.slice none 0 0) ∧ W.cell? ⟨z + 1 + 1, 3, none⟩ = some (.int .i64 0) ∧ W.cell? ⟨z + 1 + 1, 4, none⟩ = some (.int .i64 0) ∧ ∀ i, W.frozen? ⟨z + 1 + 1, i, none⟩ = false) :=
  ⟨fr_reads h.1, sty_reads h.2.1, fr_reads h.2.2⟩
theorem FrOwn.open {W : World} {B n : Nat} {v : Value} {a b c d : Int} {cs : List Cl} (h : FrOwn W B v ⟨a, b, cs, c, d⟩) (hn : cs.length = n) (h0 : 0 < n) : ∃ g cap, v = .agg #[.int .i64 a, .int .i64 b, .slice (some ⟨g, 0, none⟩) n cap, .int .i64 c, .int .i64 d] ∧ cap ≤ maxLen ∧ OwnC W B (.slice (some ⟨g, 0, none⟩) n cap) cs ∧ B ≤ g := by
  subst hn
  obtain ⟨A, cap, rfl, h1, h2⟩ := h
  obtain ⟨g, c', e, -, hg⟩ := h2.formN h0
  injection e with e

  subst e
  exact ⟨g, cap, rfl, h1, h2, hg⟩
theorem fr_own {W : World} {B g n cap : Nat} {a b c d : Int} {cs : List Cl} (hn : cs.length = n) (hcap : cap ≤ maxLen) (h : OwnC W B (.slice (some ⟨g, 0, none⟩) n cap) cs) : FrOwn W B (.agg #[.int .i64 a, .int .i64 b, .slice (some ⟨g, 0, none⟩) n cap, .int .i64 c, .int .i64 d]) ⟨a, b, cs, c, d⟩ := by
  subst hn
  exact ⟨_, cap, rfl, hcap, h⟩
theorem FrOwn.mono {W : World} {B C : Nat} {v : Value} {f : Fr} (h : FrOwn W B v f) (hc : C ≤ B) : FrOwn W C v f := by
  obtain ⟨A, cap, e, h1, h2⟩ := h
  exact ⟨A, cap, e, h1, h2.mono hc⟩
theorem fr_nil (W : World) (B : Nat) : FrOwn W B (.agg #[.int .i64 0, .int .i64 0, .slice none 0 0, .int .i64 0, .int .i64 0]) noF := ⟨none, 0, rfl, by unfold maxLen; omega, ⟨rfl, .inl ⟨rfl, rfl⟩⟩⟩
theorem valid_is (f : Fr) (b : Bool) (hx : validF f = b) (v : Value) (w : World) (h : FrAt w v f) (hT : WTabs w) : Calls Tryd.prog 24 #[v] w fun e w' => e = .returned (.bool b) ∧ Below w.heap.size w w' := by
  subst hx; exact valid_any f v w h hT
theorem rvalid_is (f : Fr) (b : Bool) (hx : validF f = b) (v : Value) (w : World) (h : FrAt w v f) : Calls Tryd.prog 86 #[v] w fun e w' => e = .returned (.bool b) ∧ Below w.heap.size w w' := by
  subst hx; exact rvalid_any f v w h
theorem wof_is (r x : Int) (hx : cells r = x) (w : World) (hT : WTabs w) : Calls Tryd.prog 18 #[.int .i32 r] w fun e w' => e = .returned (.int .i64 x) ∧ Below w.heap.size w w' := by
  subst hx; exact wof_any r w hT
theorem style_is (c : Cl) (x : Bool) (hx : styC c = x) (w : World) : Calls Tryd.prog 73 #[.agg #[.int .i64 c.fg, .bool c.bo, .bool c.un, .bool c.iv]] w fun e w' => e = .returned (.bool x) ∧ Below w.heap.size w w' := by
  subst hx; exact style_any c w
end Go.Proofs.YtmemdhmjhckmaaaDoor
namespace Go.Proofs.YtmemdhmjhckmaaaDoor

/-- The cells of a row, cut or filled up. -/
def fillL (l : List Cl) (n : Nat) : List Cl := l.take n ++ List.replicate (n - l.length) blankC
/-- A row in another width: what is cut at the end is a blank. -/
def rowR (l : List Cl) (n : Nat) : List Cl := if ((fillL l n).getD (n - 1) blankC).w = 2 then (fillL l n).set (n - 1) blankC else fillL l n
theorem fill_len (l : List Cl) (n : Nat) : (fillL l n).length = n := by unfold fillL; rw [List.length_append, List.length_take, List.length_replicate]; omega
theorem rowR_len (l : List Cl) (n : Nat) : (rowR l n).length = n := by unfold rowR; split <;> simp [fill_len]
theorem fill_at (l : List Cl) (n j : Nat) : (fillL l n)[j]? = if j < n then some (l.getD j blankC) else none := by
  unfold fillL
  by_cases h1 : j < (l.take n).length
  · rw [List.getElem?_append_left h1]
    rw [List.length_take] at h1
    rw [List.getElem?_take_of_lt (by omega), if_pos (by omega), List.getElem?_eq_getElem (show j < l.length by omega), getD_some (List.getElem?_eq_getElem (show j < l.length by omega))]
  · rw [List.getElem?_append_right (by omega)]
    rw [List.length_take] at h1 ⊢
    by_cases h2 : j < n
    · rw [if_pos h2, List.getElem?_replicate, if_pos (by omega), List.getD_eq_getElem?_getD, List.getElem?_eq_none (by omega)]; rfl
    · rw [if_neg h2, List.getElem?_replicate, if_neg (by omega)]
theorem rowR_at (l : List Cl) {n : Nat} (hn : 0 < n) (j : Nat) : (rowR l n)[j]? = if j < n then some (if j = n - 1 ∧ (l.getD j blankC).w = 2 then blankC else l.getD j blankC) else none := by
  have hd : (fillL l n).getD (n - 1) blankC = l.getD (n - 1) blankC := getD_some (by rw [fill_at, if_pos (by omega)])
  unfold rowR
  rw [hd]
  split
  case isTrue h =>
    rw [List.getElem?_set, fill_len, fill_at]
    by_cases e : n - 1 = j
    · subst e
      rw [if_pos rfl, if_pos (by omega), if_pos (by omega), if_pos ⟨rfl, h⟩]
    · rw [if_neg e]
      simp [show ¬ j = n - 1 from fun h => e h.symm]
  case isFalse h =>
    rw [fill_at]
    by_cases e : j = n - 1
    · rw [if_neg (fun x : j = n - 1 ∧ _ => h (by rw [← x.1]; exact x.2))]
    · rw [if_neg (fun x : j = n - 1 ∧ _ => e x.1)]
/-- What is mended in a row that was one. -/
theorem mend_fill {l : List Cl} (h : rowB l = true) {n : Nat} (hn : 0 < n) : mendL none (fillL l n) = rowR l n := by
  apply List.ext_getElem?
  intro j
  rw [mendL_at, rowR_at l hn, fill_at l n j]
  by_cases hj : j < n
  · rw [if_pos hj, if_pos hj, Option.map_some]
    congr 1
    by_cases hl : j < l.length
    · have hx := List.getElem?_eq_getElem hl
      obtain ⟨c, hc⟩ : ∃ c, l[j] = c := ⟨_, rfl⟩
      rw [hc] at hx
      rw [getD_some hx]
      have hk := mend_keep h hx
      obtain ⟨f1, f2, f3⟩ := row_facts h j c hx
      have hp : (if j = 0 then none else (fillL l n)[j - 1]?) = if j = 0 then none else l[j - 1]? := by
        split
        · rfl
        · rw [fill_at, if_pos (by omega), List.getElem?_eq_getElem (show j - 1 < l.length by omega), getD_some (List.getElem?_eq_getElem (show j - 1 < l.length by omega))]
      rw [hp]
      by_cases he : j = n - 1
      · rw [fill_at l n (j + 1), if_neg (show ¬ j + 1 < n by omega)]
        by_cases h2 : c.w = 2
        · rw [if_pos (show j = n - 1 ∧ c.w = 2 from ⟨he, h2⟩)]
          exact if_pos (.inl ⟨h2, rfl⟩)
        · rw [if_neg (show ¬ (j = n - 1 ∧ c.w = 2) from fun x => h2 x.2)]
          refine if_neg ?_
          rintro (⟨a, b⟩ | ⟨a, b⟩)
          · exact h2 a
          · obtain ⟨h1, d, hd, hd2⟩ := f3 a
            rw [if_neg (show ¬ j = 0 by omega), hd] at b
            simp [hd2] at b
      · rw [if_neg (fun x : j = n - 1 ∧ c.w = 2 => he x.1), fill_at l n (j + 1), if_pos (show j + 1 < n by omega)]
        by_cases h2 : c.w = 2
        · obtain ⟨d, hd, hd2⟩ := f2 h2
          rw [getD_some hd]
          rw [hd] at hk
          exact hk
        · refine if_neg ?_
          rintro (⟨a, b⟩ | ⟨a, b⟩)
          · exact h2 a
          · obtain ⟨h1, d, hd, hd2⟩ := f3 a
            rw [if_neg (show ¬ j = 0 by omega), hd] at b
            simp [hd2] at b
    · have e : l.getD j blankC = blankC := by rw [List.getD_eq_getElem?_getD, List.getElem?_eq_none (by omega)]; rfl
      rw [e, if_neg (show ¬ (j = n - 1 ∧ blankC.w = 2) from fun x => absurd x.2 (by decide))]
      exact if_neg (by rintro (⟨a, b⟩ | ⟨a, b⟩) <;> exact absurd a (by decide))
  · rw [if_neg hj, if_neg hj]; rfl
/-- The screen of R' rows of n cells, of which i have been filled. -/
def resTo (L : List Cl) (C n R' : Nat) : Nat → List Cl
  | 0 => List.replicate (R' * n) blankC
  | i + 1 => replR (resTo L C n R' i) n i (rowR (rowL L C i) n)
theorem resTo_len (L : List Cl) (C n R' : Nat) : ∀ i, i ≤ R' → (resTo L C n R' i).length = R' * n
  | 0, _ => by simp [resTo]
  | i + 1, h => replR_len (resTo_len L C n R' i (by omega)) (by omega) (rowR_len _ _)
theorem row_replR {L l : List Cl} {R C k : Nat} (hL : L.length = R * C) (hk : k < R) (hl : l.length = C) (q : Nat) : rowL (replR L C k l) C q = if q = k then l else rowL L C q := by
  split
  case isTrue h => subst h; exact replR_part hL hk hl
  case isFalse h =>
    apply List.ext_getElem?
    intro j
    unfold rowL
    by_cases hj : j < C
    · rw [List.getElem?_take_of_lt hj, List.getElem?_take_of_lt hj, List.getElem?_drop, List.getElem?_drop, replR_at hL hk hl, if_neg]
      rintro ⟨a, b⟩
      rcases Nat.lt_or_gt_of_ne h with h1 | h1
      · have : (q + 1) * C ≤ k * C := Nat.mul_le_mul_right _ h1
        rw [Nat.add_mul, Nat.one_mul] at this
        omega
      · have : (k + 1) * C ≤ q * C := Nat.mul_le_mul_right _ h1
        omega
    · rw [List.getElem?_take_eq_none (by omega), List.getElem?_take_eq_none (by omega)]
theorem resTo_row (L : List Cl) (C n R' : Nat) : ∀ i, i ≤ R' → ∀ q, q < R' → rowL (resTo L C n R' i) n q = if q < i then rowR (rowL L C q) n else List.replicate n blankC
  | 0, _, q, hq => by
    rw [if_neg (by omega)]
    have h1 : (q + 1) * n ≤ R' * n := Nat.mul_le_mul_right _ hq
    rw [Nat.add_mul, Nat.one_mul] at h1
    unfold rowL resTo
    rw [List.drop_replicate, List.take_replicate, Nat.min_eq_left (by omega)]
  | i + 1, h, q, hq => by
    rw [resTo, row_replR (resTo_len L C n R' i (by omega)) (by omega) (rowR_len _ _)]
    by_cases e : q = i
    · subst e; rw [if_pos rfl, if_pos (by omega)]
    · rw [if_neg e, resTo_row L C n R' i (by omega) q hq]
      by_cases a : q < i
      · rw [if_pos a, if_pos (by omega)]
      · rw [if_neg a, if_neg (by omega)]
theorem fill_step (l : List Cl) (n k : Nat) (x : Cl) (hx : l[k]? = some x) (hk : k < n) : (fillL (l.take k) n).set k x = fillL (l.take (k + 1)) n := by
  have hlt := (List.getElem?_eq_some_iff.1 hx).1
  apply List.ext_getElem?
  intro j
  rw [List.getElem?_set, fill_len, fill_at, fill_at]
  by_cases e : k = j
  · subst e
    rw [if_pos rfl, if_pos hk, if_pos hk, getD_some (by rw [List.getElem?_take_of_lt (by omega)]; exact hx)]
  · rw [if_neg e]
    congr 2
    rw [List.getD_eq_getElem?_getD, List.getD_eq_getElem?_getD]
    congr 1
    by_cases a : j < k
    · rw [List.getElem?_take_of_lt a, List.getElem?_take_of_lt (by omega)]
    · rw [List.getElem?_take_eq_none (by omega), List.getElem?_take_eq_none (by omega)]
theorem fill_0 (l : List Cl) (n : Nat) : fillL (l.take 0) n = List.replicate n blankC := by unfold fillL; simp
theorem fill_cut (l : List Cl) (n m : Nat) (h : n ≤ m ∨ l.length ≤ m) : fillL (l.take m) n = fillL l n := by
  apply List.ext_getElem?
  intro j
  rw [fill_at, fill_at]
  by_cases hj : j < n
  · rw [if_pos hj, if_pos hj]
    congr 1
    rw [List.getD_eq_getElem?_getD, List.getD_eq_getElem?_getD]
    congr 1
    by_cases a : j < m
    · rw [List.getElem?_take_of_lt a]
    · rw [List.getElem?_take_eq_none (by omega), List.getElem?_eq_none (by omega)]
  · rw [if_neg hj, if_neg hj]
/-- The frame of a size, of blanks. -/
def newF (rows cols : Int) : Fr := if mayB rows cols = true then ⟨rows, cols, List.replicate (rows.toNat * cols.toNat) blankC, 0, 0⟩ else noF
def newE (rows cols : Int) : Int := if mayB rows cols = true then 0 else 2
def resOk (f : Fr) (rows cols : Int) : Bool := mayB rows cols && validF f
def resF (f : Fr) (rows cols : Int) : Fr :=
  if resOk f rows cols = true then ⟨rows, cols, resTo f.cs f.cols.toNat cols.toNat rows.toNat (min rows.toNat f.rows.toNat), min f.row (rows - 1), min f.col (cols - 1)⟩ else noF
def resE (f : Fr) (rows cols : Int) : Int := if resOk f rows cols = true then 0 else 2
end Go.Proofs.YtmemdhmjhckmaaaDoor
