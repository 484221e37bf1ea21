/- Plain: the document's steps of putting a rune into a row of a screen, one after the other. Plain: the steps of making a frame of another size, on both sides. A copy into a part of a slice of the call's own. Terminal: a line feed. Contract of grids.Resize. -/
import Derived.Test.YtmemdhmjhckmaaaDoorZ7
import Derived.Test.YtmemdhmjhckmaaaDoorZ16
import Derived.Test.YtmemdhmjhckmaaaDoorZ8
namespace Go.Proofs.YtmemdhmjhckmaaaDoor

/-- The first j cells from s on are blanks. -/
def blTo (L : List Cl) (s : Nat) : Nat → List Cl
  | 0 => L
  | j + 1 => (blTo L s j).set (s + j) blankC
theorem bl_len (L : List Cl) (s : Nat) : ∀ j, (blTo L s j).length = L.length
  | 0 => rfl
  | j + 1 => by unfold blTo; rw [List.length_set, bl_len L s j]
theorem bl_row {L : List Cl} {R C k i : Nat} (hL : L.length = R * C) (hk : k < R) : ∀ m, i + m ≤ C → blTo L (k * C + i) m = replR L C k (blTo (rowL L C k) i m)
  | 0, _ => by unfold blTo; rw [replR_self hL hk]
  | m + 1, h => by
    unfold blTo
    rw [bl_row hL hk m (by omega), Nat.add_assoc, replR_set hL hk (by rw [bl_len]; exact rowL_len hL hk) (by omega)]
theorem mended_row {L l : List Cl} {R C k : Nat} (hL : L.length = R * C) (hk : k < R) (hl : l.length = C) : mended (replR L C k l) (k * C) C = replR L C k (mendL none l) := by
  have h2 : k * C + C = (k + 1) * C := by rw [Nat.add_mul, Nat.one_mul]
  have e : mended (replR L C k l) (k * C) C = replR (replR L C k l) C k (mendL none l) := by
    unfold mended
    rw [replR_part hL hk hl, h2]
    rfl
  rw [e, replR_repl hL hk hl]
theorem put_doc1 {L : List Cl} {R C k i : Nat} (hL : L.length = R * C) (hv : validL L R C = true) (hk : k < R) (hi : i + 1 ≤ C) (c : Cl) : (mended (blTo L (k * C + i) 1) (k * C) C).set (k * C + i) c = putL L (k * C + i) 1 c := by
  have hr : rowB (rowL L C k) = true := by unfold validL at hv; rw [List.all_eq_true] at hv; exact hv k (List.mem_range.2 hk)
  have hl := rowL_len hL hk
  rw [put_rows hL hv hk (.inl rfl) hi, ← putD_eq hr (.inl rfl) (by omega), bl_row hL hk 1 hi, mended_row hL hk (by rw [bl_len]; exact hl), replR_set hL hk (by rw [mend_len, bl_len]; exact hl) (by omega)]
  unfold putD
  rw [if_neg (by omega), blank_1]
  rfl
theorem put_doc2 {L : List Cl} {R C k i : Nat} (hL : L.length = R * C) (hv : validL L R C = true) (hk : k < R) (hi : i + 2 ≤ C) (c : Cl) : ((mended (blTo L (k * C + i) 2) (k * C) C).set (k * C + i) c).set (k * C + i + 1) (halfC c) = putL L (k * C + i) 2 c := by
  have hr : rowB (rowL L C k) = true := by unfold validL at hv; rw [List.all_eq_true] at hv; exact hv k (List.mem_range.2 hk)
  have hl := rowL_len hL hk
  rw [put_rows hL hv hk (.inr rfl) hi, ← putD_eq hr (.inr rfl) (by omega), bl_row hL hk 2 hi, mended_row hL hk (by rw [bl_len]; exact hl), replR_set hL hk (by rw [mend_len, bl_len]; exact hl) (by omega), Nat.add_assoc, replR_set hL hk (by rw [List.length_set, mend_len, bl_len]; exact hl) (by omega)]
  unfold putD
  rw [if_pos rfl, blank_2]
  rfl
end Go.Proofs.YtmemdhmjhckmaaaDoor
namespace Go.Proofs.YtmemdhmjhckmaaaDoor
open Go.RowKit
set_option maxRecDepth 100000

theorem part_len {L : List Cl} {R C i : Nat} (hL : L.length = R * C) (hi : i < R) : i * C + C ≤ R * C := by
  have : (i + 1) * C ≤ R * C := Nat.mul_le_mul_right _ hi
  rw [Nat.add_mul, Nat.one_mul] at this
  exact this
theorem res_row0 {cs : List Cl} {C n R' i : Nat} (hi : i < R') : rowL (resTo cs C n R' i) n i = List.replicate n blankC := by
  rw [resTo_row _ _ _ _ i (by omega) i hi, if_neg (by omega)]
/-- Behind the copy of a row. -/
theorem res_mid {M S : List Cl} {C n R' i k : Nat} (hM : M.length = R' * n) (hi : i < R') (h0 : rowL M n i = List.replicate n blankC) (hS : S.length = C) (hk : k = min C n) : M.take (i * n) ++ S.take k ++ M.drop (i * n + k) = replR M n i (fillL S n) := by
  have h1 := part_len hM hi
  have h2 : (i + 1) * n = i * n + n := by rw [Nat.add_mul, Nat.one_mul]
  have e1 : (M.take (i * n)).length = i * n := by rw [List.length_take]; omega
  have e2 : (S.take k).length = k := by rw [List.length_take]; omega
  apply List.ext_getElem?
  intro j
  rw [replR_at hM hi (fill_len _ _), fill_at]
  have hkn : k ≤ n ∧ k ≤ C ∧ (C ≤ k ∨ n ≤ k) := by omega
  rw [h2]
  obtain ⟨p, hp⟩ : ∃ p, i * n = p := ⟨_, rfl⟩
  rw [hp] at e1 h1 ⊢
  by_cases a : j < p
  · rw [if_neg (show ¬ (p ≤ j ∧ j < p + n) by omega), List.append_assoc, List.getElem?_append_left (by omega), List.getElem?_take_of_lt a]
  by_cases b : j < p + k
  · have hx := List.getElem?_eq_getElem (show j - p < S.length by omega)
    rw [if_pos (show p ≤ j ∧ j < p + n by omega), if_pos (show j - p < n by omega), List.getElem?_append_left (by rw [List.length_append]; omega), List.getElem?_append_right (by omega), e1, List.getElem?_take_of_lt (by omega), getD_some hx, hx]
  · rw [List.getElem?_append_right (by rw [List.length_append]; omega), List.length_append, e1, e2, List.getElem?_drop, show p + k + (j - (p + k)) = j by omega]
    by_cases c : j < p + n
    · rw [if_pos (show p ≤ j ∧ j < p + n by omega), if_pos (show j - p < n by omega), List.getD_eq_getElem?_getD, List.getElem?_eq_none (show S.length ≤ j - p by omega)]
      have := congrArg (fun l => l[j - p]?) h0
      simp only [rowL_at (show j - p < n by omega), List.getElem?_replicate, show j - p < n by omega, if_true] at this
      rw [hp, show p + (j - p) = j by omega] at this
      exact this
    · rw [if_neg (show ¬ (p ≤ j ∧ j < p + n) by omega)]
theorem res_last {M S : List Cl} {n R' i : Nat} (hM : M.length = R' * n) (hi : i < R') (hn : 0 < n) (h : ((fillL S n).getD (n - 1) blankC).w = 2) : (replR M n i (fillL S n)).set (i * n + (n - 1)) blankC = replR M n i (rowR S n) := by
  rw [replR_set hM hi (fill_len _ _) (by omega)]
  unfold rowR
  rw [if_pos h]
theorem res_stay {M S : List Cl} {n i : Nat} (h : ¬ ((fillL S n).getD (n - 1) blankC).w = 2) : replR M n i (fillL S n) = replR M n i (rowR S n) := by
  unfold rowR
  rw [if_neg h]
theorem res_get {M S : List Cl} {n R' i : Nat} (hM : M.length = R' * n) (hi : i < R') (hn : 0 < n) : (replR M n i (fillL S n))[i * n + (n - 1)]? = some ((fillL S n).getD (n - 1) blankC) := by
  have h1 := part_len hM hi
  have h2 : (i + 1) * n = i * n + n := by rw [Nat.add_mul, Nat.one_mul]
  have hx := List.getElem?_eq_getElem (show n - 1 < (fillL S n).length by rw [fill_len]; omega)
  rw [replR_at hM hi (fill_len _ _), if_pos (by omega), show i * n + (n - 1) - i * n = n - 1 by omega, getD_some hx, hx]
theorem res_doc0 {M S : List Cl} {n R' i : Nat} (hM : M.length = R' * n) (hi : i < R') (h0 : rowL M n i = List.replicate n blankC) : M = replR M n i (fillL (S.take 0) n) := by
  rw [fill_0, ← h0, replR_self hM hi]
theorem res_doc1 {M S : List Cl} {n R' i j : Nat} {x : Cl} (hM : M.length = R' * n) (hi : i < R') (hj : j < n) (hx : S[j]? = some x) : (replR M n i (fillL (S.take j) n)).set (i * n + j) x = replR M n i (fillL (S.take (j + 1)) n) := by
  rw [replR_set hM hi (fill_len _ _) hj, fill_step S n j x hx hj]
theorem res_doc2 {M S : List Cl} {C n R' i : Nat} (hM : M.length = R' * n) (hi : i < R') (hn : 0 < n) (hS : S.length = C) (hr : rowB S = true) : mended (replR M n i (fillL (S.take (min n C)) n)) (i * n) n = replR M n i (rowR S n) := by
  rw [mended_row hM hi (fill_len _ _), fill_cut _ _ _ (by omega), mend_fill hr hn]
theorem flatC_cut {L : List Cl} {k : Nat} (h : k ≤ L.length) : (flatC L).take (k * 6) = flatC (L.take k) ∧ (flatC L).drop (k * 6) = flatC (L.drop k) := by
  have e : flatC (L.take k) ++ flatC (L.drop k) = flatC L := by rw [← flatC_app, List.take_append_drop]
  have hl : (flatC (L.take k)).length = k * 6 := by rw [flatC_len, List.length_take, Nat.min_eq_left h]
  exact ⟨by rw [← e, List.take_left' hl], by rw [← e, List.drop_left' hl]⟩
theorem splice_flat {cl : List Value} {L S : List Cl} {q n : Nat} (hn : L.length = n) (hl : n * 6 ≤ cl.length) (ht : cl.take (n * 6) = flatC L) (hq : q + S.length ≤ n) :
    (cl.take (q * 6) ++ flatC S ++ cl.drop (q * 6 + S.length * 6)).take (n * 6) = flatC (L.take q ++ S ++ L.drop (q + S.length)) := by
  have hc : cl = flatC L ++ cl.drop (n * 6) := by rw [← ht, List.take_append_drop]
  have hfl : (flatC L).length = n * 6 := by rw [flatC_len, hn]
  obtain ⟨a1, -⟩ := flatC_cut (L := L) (k := q) (by omega)
  obtain ⟨-, a2⟩ := flatC_cut (L := L) (k := q + S.length) (by omega)
  have h6 : q * 6 + S.length * 6 = (q + S.length) * 6 := by omega
  obtain ⟨r, hr⟩ : ∃ r, cl = flatC L ++ r := ⟨_, hc⟩
  have t1 : cl.take (q * 6) = flatC (L.take q) := by rw [hr, List.take_append_of_le_length (by omega), a1]
  have t2 : cl.drop (q * 6 + S.length * 6) = flatC (L.drop (q + S.length)) ++ r := by rw [hr, h6, List.drop_append_of_le_length (by omega), a2]
  rw [t1, t2, ← List.append_assoc, ← flatC_app, ← flatC_app]
  exact List.take_left' (by rw [flatC_len, List.length_append, List.length_append, List.length_take, List.length_drop]; omega)
/-- A copy into a part of a slice of the call's own. -/
theorem own_copy {w : World} (B g q n c : Nat) (L : List Cl) (h : OwnC w B (.slice (some ⟨g, 0, none⟩) n c) L) (hn : L.length = n) (dLen dCap : Nat)
    (b o sLen sCap : Nat) (S : List Cl) (hS : S.length = sLen) (hcl : ClsAt w (some ⟨b, o, none⟩) S) (k : Nat) (hk : k = min sLen dLen) (hq : q + k ≤ n) (ty : TypeId) :
    ∃ w', (Builtin.copy_ #[33, 33] ty #[.slice (some ⟨g, q * 6, none⟩) dLen dCap, .slice (some ⟨b, o, none⟩) sLen sCap]).run Tryd.prog w = .ok (goInt k) w' ∧ OwnC w' B (.slice (some ⟨g, 0, none⟩) n c) (L.take q ++ S.take k ++ L.drop (q + k)) ∧ w.grownBy w' (some g) := by
  subst hn hS
  have hbase := h.base
  rcases h.2 with ⟨e, h0⟩ | ⟨g', cap, cur, e, hg, hh, hcc, hmx, hsz, htk⟩
  · cases e
  injection e with e e2 e3
  injection e with e
  injection e with e
  subst e e3
  have hkl : (flatC (S.take k)).length = k * 6 := by rw [flatC_len, List.length_take]; omega
  have hcl2 : ClsAt w (some ⟨b, o, none⟩) (S.take k) := by
    have := hcl.sub 0 k
    rw [Nat.zero_mul, Nat.add_zero, List.drop_zero] at this
    exact this
  have hq6 : q * 6 + k * 6 ≤ cur.size := by
    rw [hsz]
    have : (q + k) * 6 ≤ c * 6 := Nat.mul_le_mul_right _ (by omega)
    omega
  have hSk : (S.take k).length = k := by rw [List.length_take]; omega
  obtain ⟨cl, rfl⟩ : ∃ cl : List Value, cur = cl.toArray := ⟨cur.toList, by simp⟩
  simp only [List.size_toArray] at hq6 hsz
  have htk' : cl.take (L.length * 6) = flatC L := by simpa using htk
  have hnc : L.length * 6 ≤ cl.length := by rw [hsz]; exact Nat.mul_le_mul_right _ hcc
  have hfl := splice_flat (S := S.take k) (q := q) rfl hnc htk' (by rw [hSk]; exact hq)
  rw [hSk] at hfl
  obtain ⟨N, hN⟩ : ∃ N, cl.take (q * 6) ++ flatC (S.take k) ++ cl.drop (q * 6 + k * 6) = N := ⟨_, rfl⟩
  have hNl : N.length = c * 6 := by rw [← hN, List.length_append, List.length_append, List.length_take, List.length_drop, hkl]; omega
  have hLl : (L.take q ++ S.take k ++ L.drop (q + k)).length = L.length := by rw [List.length_append, List.length_append, List.length_take, List.length_take, List.length_drop]; omega
  have hm : Nat.min S.length dLen = k := hk.symm
  have hrun := run_copy_rowN (P := Tryd.prog) w 33 33 ty 82 6 g (q * 6) dLen dCap ⟨b, o, none⟩ S.length sCap cl.toArray _ (flatC (S.take k)) Tryd.underlying33 infoC2 hh (by rw [hkl, hm]) hcl2.flat (by rw [hkl]; simpa using hq6) (flatC_one _)
  rw [hm, hkl] at hrun
  simp only [] at hrun
  rw [hN] at hrun hfl
  have hh2 := setRow_heap w g cl.toArray N.toArray _ (0, 0) hh
  have hown : OwnC (w.setRow g N.toArray) B (.slice (some ⟨g, 0, none⟩) L.length c) (L.take q ++ S.take k ++ L.drop (q + k)) := by
    refine ⟨by rw [flatC_len], .inr ⟨g, c, N.toArray, ?_, hg, hh2, by rw [hLl]; exact hcc, hmx, by simpa using hNl, ?_⟩⟩
    · rw [hLl]
    · rw [hLl]; simpa using hfl
  have hgr : w.grownBy (w.setRow g N.toArray) (some g) := by
    refine ⟨by simp [World.setRow], by simp [World.setRow], by simp [World.setRow], by simp [World.setRow], fun j hj hne => ?_⟩
    have : g ≠ j := fun e => hne (by rw [e])
    simp [World.setRow, Array.getElem?_modify, this]
  exact ⟨_, hrun, hown, hgr⟩
end Go.Proofs.YtmemdhmjhckmaaaDoor
namespace Go.Proofs.YtmemdhmjhckmaaaDoor
open Go.RowKit
set_option maxRecDepth 100000

/-- A line feed: the cursor goes down, or all rows go up. -/
def feedM (t : Tm) : Tm := if t.row + 1 < t.rows then { t with row := t.row + 1 } else { t with cs := t.cs.drop t.cols ++ List.replicate t.cols blankC }
def fdTo (L : List Cl) (C k : Nat) : List Cl := L.drop C ++ List.replicate k blankC ++ (L.drop (L.length - C)).drop k
theorem fd_zero (L : List Cl) (C : Nat) : fdTo L C 0 = L.drop C ++ L.drop (L.length - C) := by simp [fdTo]
theorem fd_len {L : List Cl} {C k : Nat} (h : C ≤ L.length) (hk : k ≤ C) : (fdTo L C k).length = L.length := by simp [fdTo]; omega
theorem fd_end {L : List Cl} {C : Nat} (h : C ≤ L.length) : fdTo L C C = L.drop C ++ List.replicate C blankC := by
  have e : (L.drop (L.length - C)).drop C = [] := List.drop_eq_nil_of_le (by rw [List.length_drop]; omega)
  unfold fdTo
  rw [e, List.append_nil]
theorem fd_step {L : List Cl} {C k : Nat} (h : C ≤ L.length) (hk : k < C) : (fdTo L C k).set (L.length - C + k) ⟨32, 1, 0, false, false, false⟩ = fdTo L C (k + 1) := by
  have hl : (L.drop C ++ List.replicate k blankC).length = L.length - C + k := by simp
  have hT : (L.drop (L.length - C)).drop k ≠ [] := by
    intro e
    have := congrArg List.length e
    simp at this
    omega
  unfold fdTo
  rw [List.set_append_right _ _ (by omega), hl, Nat.sub_self]
  cases hT2 : (L.drop (L.length - C)).drop k with
  | nil => exact absurd hT2 hT
  | cons x T =>
    have e2 : (L.drop (L.length - C)).drop (k + 1) = T := by
      rw [← List.drop_drop, hT2]; rfl
    rw [e2, List.set_cons_zero, List.replicate_succ', List.append_assoc, List.append_assoc, List.append_assoc]
    rfl
set_option maxHeartbeats 4000000 in
theorem tfeed_any {w0 W : World} {z g cap : Nat} (t : Tm) (h : TmB w0 W z g cap t) (hT : Tabs w0) (hn : t.cs.length ≤ 20000) (hc : t.cols < t.cs.length) (hr : 1 ≤ t.rows ∧ t.rows ≤ 1000) (hw : t.row ≤ 1000) (hc0 : 1 ≤ t.cols) :
    Calls Tryd.prog 77 #[.pointer (some ⟨z, 0, none⟩)] W (Mv w0 W z g cap (feedM t)) := by
  obtain ⟨R, C, cs, row, col, ⟨a, tx⟩, s, wt, bl⟩ := t
  dsimp only at hn hc hr hw hc0
  obtain ⟨c0, c1, c2, c3, c4, -⟩ := h.reads
  have bf := fun i => h.b.frozen i
  have H := hide h
  obtain ⟨n, hne⟩ : ∃ n, cs.length = n := ⟨_, rfl⟩
  have HN := hide hne
  rw [hne] at c3 hn hc
  clear h hne c0
  by_cases hrow : row + 1 < R
  · have q1 : (row : Int) < (R : Int) - 1 := by omega
    have HS := hide (H.out.low ((Below.refl _ _).drew))
    have HE := hide (show feedM ⟨R, C, cs, row, col, (a, tx), s, wt, bl⟩ = ⟨R, C, cs, row + 1, col, (a, tx), s, wt, bl⟩ by unfold feedM; rw [if_pos hrow])
    have HZ := hide (HS.out.setZ ⟨R, C, cs, row + 1, col, (a, tx), s, wt, bl⟩ 4 (.int .i64 ((row + 1 : Nat) : Int)) rfl rfl)
    go_enter Tryd.func77, Tryd.ntmps77
    go_wp2_with fail
    go_region
    go_wp2
    go_end0
    rw [HE.out]
    exact Mv.mk HZ.out (K2.drew.trans (K2.set _ _ _ _ _))
  · have q1 : ¬ (row : Int) < (R : Int) - 1 := by omega
    have HE := hide (show feedM ⟨R, C, cs, row, col, (a, tx), s, wt, bl⟩ = ⟨R, C, cs.drop C ++ List.replicate C blankC, row, col, (a, tx), s, wt, bl⟩ by unfold feedM; rw [if_neg hrow])
    have HS := hide (H.out.low ((Below.refl _ _).drew.drew))
    obtain ⟨w5, hcp, how5, hg5⟩ := own_copy (w := W.drew.drew) w0.heap.size g 0 n cap cs (by have := HS.out.own; rw [HN.out] at this; exact this) HN.out n cap g (C * 6) (n - C) (cap - C) (cs.drop C) (by rw [List.length_drop, HN.out]) (by have := HS.out.own.cls.sub C (cs.length - C); rw [Nat.zero_add, List.take_of_length_le (by rw [List.length_drop]; exact Nat.le_refl _)] at this; exact this) (n - C) (by omega) (by omega) 3
    have hCn : (C : Int) ≤ (n : Int) := by omega
    have hcap : n ≤ cap := by
      rcases H.out.own.2 with ⟨e, -⟩ | ⟨g', cap', cur, e, -, -, h1, -⟩
      · cases e
      · injection e with e1 e2 e3
        rw [e3, ← HN.out]; exact h1
    have hcC : ¬ cap = C := by omega
    rw [Nat.zero_mul] at hcp
    simp only [List.take_zero, List.nil_append, Nat.zero_add] at how5
    go_enter Tryd.func77, Tryd.ntmps77
    go_wp2_with fail
    go_region
    go_wp2_with fail
    go_region
    have HF0 := hide (show TmB w0 w5 z g cap ⟨R, C, fdTo cs C 0, row, col, (a, tx), s, wt, bl⟩ from by
      have e : List.take (n - C) (List.drop C cs) ++ List.drop (n - C) cs = fdTo cs C 0 := by rw [fd_zero, List.take_of_length_le (by rw [List.length_drop, HN.out]; exact Nat.le_refl _), HN.out]
      rw [e] at how5
      exact HS.out.grownG hg5 (by dsimp only; rw [fd_len (by rw [HN.out]; omega) (Nat.zero_le _)]) (by dsimp only; rw [HN.out]; exact how5))
    have HK0 := hide (show K2 z g W w5 from (K2.drew.trans K2.drew).trans (K2.grown hg5))
    have hG := H.out.hG
    have hblt := hT.lt
    have hg1 : ¬ g = 5 := by omega
    have hg2 : ¬ 5 = g := by omega
    clear hcp how5 hg5 HS c1 c2 c3 c4 bf H
    go_wp2_with fail
    go_loopw [3] (fun iv wr => ∃ k : Nat, iv = .int .i64 ((n - C + k : Nat) : Int) ∧ k ≤ C ∧ Hid (TmB w0 wr z g cap ⟨R, C, fdTo cs C k, row, col, (a, tx), s, wt, bl⟩) ∧ Hid (K2 z g W wr)) (fun iv _ => n - (intOf iv).toNat)
    case atStart => exact ⟨0, rfl, by omega, HF0, HK0⟩
    case round =>
      clear HF0 HK0
      obtain ⟨k, rfl, hk, HF, HK⟩ := hrel
      have hlen : (fdTo cs C k).length = n := by rw [fd_len (by rw [HN.out]; omega) hk, HN.out]
      obtain ⟨i, hi⟩ : ∃ i, n - C + k = i := ⟨_, rfl⟩
      have HI := hide hi
      have HL := hide hlen
      obtain ⟨-, -, -, d3, -⟩ := HF.out.reads
      rw [hlen] at d3
      obtain ⟨t0, t1, t2, t3, t4, t5⟩ := hT.t.below HF.out.below
      have df := fun i => HF.out.own.frozen i
      rw [hi]
      by_cases hlt : k < C
      · have hin : i < n := by omega
        have hin2 : (i : Int) < (n : Int) := by omega
        obtain ⟨d, hd⟩ : ∃ d, (fdTo cs C k)[i]? = some d := ⟨_, List.getElem?_eq_getElem (by rw [hlen]; exact hin)⟩
        obtain ⟨x0, x1, x2, x3, x4, x5⟩ := own_reads HF.out.own hd
        have HST := hide (show (fdTo cs C k).set i ⟨32, 1, 0, false, false, false⟩ = fdTo cs C (k + 1) by rw [← fd_step (by rw [HN.out]; omega) hlt, HN.out, HI.out])
        clear hd hlen hi
        go_wp2_with fail
        go_region
        obtain ⟨V, hV, H2, K2'⟩ := named (R := fun V => TmB w0 V z g cap _ ∧ K2 z g wr V) (HF.out.lay i 32 1 0 false false false (by dsimp only; rw [HL.out]; exact hin))
        rw [hV]
        have H2 := hide H2
        have K3 := hide (HK.out.trans K2')
        clear hV K2' x0 x1 x2 x3 x4 x5 t0 t1 t2 t3 t4 t5 df d3
        dsimp only at H2
        rw [HST.out] at H2
        have hI := HI.out
        go_wp2
        exact ⟨⟨k + 1, by go_num, by omega, H2, K3⟩, by simp [intOf]; omega⟩
      · obtain rfl : k = C := by omega
        have hin : ¬ (i : Int) < (n : Int) := by omega
        have HEE := hide (fd_end (L := cs) (C := k) (by rw [HN.out]; omega))
        clear hlen hi
        go_wp2
        go_end0
        rw [HE.out, ← HEE.out]
        exact Mv.mk HF.out HK.out
end Go.Proofs.YtmemdhmjhckmaaaDoor
namespace Go.Proofs.YtmemdhmjhckmaaaDoor
open Go.RowKit
set_option maxRecDepth 100000

theorem resF_bad {f : Fr} {rows cols : Int} (h : resOk f rows cols = false) : resF f rows cols = noF ∧ resE f rows cols = 2 := by unfold resF resE; rw [h]; exact ⟨rfl, rfl⟩
theorem resF_ok {f : Fr} {rows cols : Int} (h : resOk f rows cols = true) : resF f rows cols = ⟨rows, cols, resTo f.cs f.cols.toNat cols.toNat rows.toNat (min rows.toNat f.rows.toNat), min f.row (rows - 1), min f.col (cols - 1)⟩ ∧ resE f rows cols = 0 := by unfold resF resE; rw [if_pos h, if_pos h]; exact ⟨rfl, rfl⟩
theorem FrOwn.nil_form {W : World} {B : Nat} {v : Value} (h : FrOwn W B v noF) : ∃ A c, v = .agg #[.int .i64 0, .int .i64 0, .slice A 0 c, .int .i64 0, .int .i64 0] := by
  obtain ⟨A, c, e, -, -⟩ := h
  exact ⟨A, c, e⟩
/-- The two boxes. -/
def Bx2 (W : World) (z : Nat) (a b : Int) (s : Value) (c d : Int) : Prop := Blk W z 35 (frCells a b s c d) ∧ Blk W (z + 1) 35 (frCells 0 0 (.slice none 0 0) 0 0)
theorem bx2_new (w : World) (a b : Int) (s : Value) (c d : Int) : Bx2 ((w.alloc (.cells (frCells a b s c d).toArray 35)).alloc (.cells (frCells 0 0 (.slice none 0 0) 0 0).toArray 35)) w.heap.size a b s c d := by
  have h1 := Blk.new (w.alloc (.cells (frCells a b s c d).toArray 35)) 35 (frCells 0 0 (.slice none 0 0) 0 0)
  rw [World.size_alloc] at h1
  exact ⟨(Blk.new w _ _).alloc _, h1⟩
theorem Bx2.below {W W' : World} {z : Nat} {a b c d : Int} {s : Value} (h : Bx2 W z a b s c d) (hb : Below W.heap.size W W') : Bx2 W' z a b s c d := ⟨h.1.below hb, h.2.below hb⟩
theorem Bx2.alloc {W : World} {z : Nat} {a b c d : Int} {s : Value} (h : Bx2 W z a b s c d) (o : Obj) : Bx2 (W.alloc o) z a b s c d := ⟨h.1.alloc o, h.2.alloc o⟩
theorem Bx2.grown {W W' : World} {z g : Nat} {a b c d : Int} {s : Value} (h : Bx2 W z a b s c d) (hg : W.grownBy W' (some g)) (hz : z + 1 < g) : Bx2 W' z a b s c d := ⟨h.1.grown hg (by omega), h.2.grown hg (by omega)⟩
theorem Bx2.far {W : World} {z : Nat} {a b c d : Int} {s : Value} (h : Bx2 W z a b s c d) {p : Addr} (hp : z + 1 < p.block) (x : Value) : Bx2 (W.setCell p x) z a b s c d := ⟨h.1.far (by omega) x, h.2.far (by omega) x⟩
theorem Bx2.reads {W : World} {z : Nat} {a b c d : Int} {s : Value} (h : Bx2 W z a b s c d) :
    (W.cell? ⟨z, 0, none⟩ = some (.int .i64 a) ∧ W.cell? ⟨z, 1, none⟩ = some (.int .i64 b) ∧ W.cell? ⟨z, 2, none⟩ = some s ∧ W.cell? ⟨z, 3, none⟩ = some (.int .i64 c) ∧ W.cell? ⟨z, 4, none⟩ = some (.int .i64 d) ∧ ∀ i, W.frozen? ⟨z, i, none⟩ = false) ∧
    (W.cell? ⟨z + 1, 0, none⟩ = some (.int .i64 0) ∧ W.cell? ⟨z + 1, 1, none⟩ = some (.int .i64 0) ∧ W.cell? ⟨z + 1, 2, none⟩ = some (.slice none 0 0) ∧ W.cell? ⟨z + 1, 3, none⟩ = some (.int .i64 0) ∧ W.cell? ⟨z + 1, 4, none⟩ = some (.int .i64 0) ∧ ∀ i, W.frozen? ⟨z + 1, i, none⟩ = false) :=
  ⟨fr_reads h.1, fr_reads h.2⟩
theorem own_drew {W : World} {B : Nat} {v : Value} {L : List Cl} (h : OwnC W B v L) : OwnC W.drew B v L := h
theorem wrap_mul {a b q : Nat} (h : a * b = q) (hq : q ≤ 100000) : IntKind.i64.wrap ((a : Int) * (b : Int)) = (q : Int) := by
  rw [show (a : Int) * (b : Int) = (q : Int) by rw [← h]; push_cast; rfl]
  simp [IntKind.wrap_i64]; omega
theorem wrap_mul1 {a b q : Nat} (h : a * b = q) (hq : q + b ≤ 100000) : IntKind.i64.wrap (((a : Int) + 1) * (b : Int)) = (q : Int) + (b : Int) := by
  rw [show ((a : Int) + 1) * (b : Int) = (q : Int) + (b : Int) by rw [Int.add_mul, Int.one_mul, ← h]; push_cast; rfl]
  simp [IntKind.wrap_i64]; omega
set_option maxRecDepth 100000 in
set_option maxHeartbeats 4000000 in
theorem resize_frame (f : Fr) (v : Value) (rows cols : Int) (w : World) (h : FrAt w v f) (hT : WTabs w) (hB : BTab w) :
    Calls Tryd.prog 43 #[v, .int .i64 rows, .int .i64 cols] w fun e w' => ∃ v', e = .returned (.tuple #[v', .int .i64 (resE f rows cols)]) ∧ FrOwn w' w.heap.size v' (resF f rows cols) ∧ Below w.heap.size w w' := by
  obtain ⟨A, cap, rfl, hc, hcap, hcl⟩ := h
  obtain ⟨rw0, cl0, cs, fr, fc⟩ := f
  obtain ⟨n, hn⟩ : ∃ n, cs.length = n := ⟨_, rfl⟩
  have HFR := hide (show ∀ W, Below w.heap.size w W → FrAt W (frV ⟨rw0, cl0, cs, fr, fc⟩ A n cap) ⟨rw0, cl0, cs, fr, fc⟩ from fun W hW => ⟨A, cap, by dsimp only; rw [hn], hc, hcap, hcl.below hW⟩)
  have HN := hide hn
  have HCL := hide hcl
  have HT := hide hT
  have HBT := hide hB
  have hlt := World.block_lt_of_cell? _ _ hB.1
  dsimp only at hlt
  unfold frV at HFR ⊢
  dsimp only at hc HFR HCL ⊢
  rw [hn] at hc ⊢
  clear hcl hn hT hB
  have HX := hide (bx2_new w rw0 cl0 (.slice A n cap) fr fc)
  have HB0 := hide (show Below w.heap.size w ((w.alloc (.cells (frCells rw0 cl0 (.slice A n cap) fr fc).toArray 35)).alloc (.cells (frCells 0 0 (.slice none 0 0) 0 0).toArray 35)) from ((Below.refl _ _).alloc (Nat.le_refl _) _).alloc (by simp) _)
  by_cases hmay : mayB rows cols = true
  case neg =>
    have hm0 : mayB rows cols = false := by simpa using hmay
    have HNW := hide (newF_bad hm0)
    have HP := hide (resF_bad (f := ⟨rw0, cl0, cs, fr, fc⟩) (rows := rows) (cols := cols) (by unfold resOk; rw [hm0]; rfl))
    clear hmay hm0
    go_enter Tryd.func43, Tryd.ntmps43
    go_wp2_with (first
      | (go_at_call 26; refine (new_frame _ _ _ (HBT.out.below HB0.out)).mono ?_; rintro e w1 ⟨v1, he, hown, hb1⟩; rw [HNW.out.2] at he; rw [HNW.out.1] at hown; subst he; obtain ⟨A1, c1, rfl⟩ := hown.nil_form; have HX2 := hide ((HX.out.below hb1).alloc (.cells #[.int .i64 0, .int .i64 0, .slice A1 0 c1, .int .i64 0, .int .i64 0] 35)); have HB2 := hide ((HB0.out.trans (hb1.mono HB0.out.size)).alloc (Nat.le_trans HB0.out.size hb1.size) (.cells #[.int .i64 0, .int .i64 0, .slice A1 0 c1, .int .i64 0, .int .i64 0] 35)); obtain ⟨z0, z1, z2, z3, z4, zf⟩ := fr_reads HX2.out.2; clear hown hb1)
      | fail)
    refine bodyPost_ret (results_cell_tmp rfl _ _ (w.heap.size + 1) 35 (frCells 0 0 (.slice none 0 0) 0 0).toArray (0, 0) _ (.int .i64 2) rfl rfl (fr_put HX2.out.2 0 0 (.slice none 0 0) 0 0) Tryd.underlying35 rfl (by kernel_rfl)) rfl ⟨_, by rw [HP.out.2], by rw [HP.out.1]; exact fr_nil _ _, fr_below HB2.out (Nat.le_succ _) _ _ _ _ _⟩
  case pos =>
    obtain ⟨m1, m2, m3, m4⟩ := may_t.1 hmay
    obtain ⟨R', rfl⟩ : ∃ R : Nat, rows = R := ⟨rows.toNat, by omega⟩
    obtain ⟨C', rfl⟩ : ∃ C : Nat, cols = C := ⟨cols.toNat, by omega⟩
    have HNW := hide (newF_ok hmay)
    obtain ⟨hs1, hs2⟩ := size_small (R := R') (C := C') (by omega) (by omega) (by omega) (by omega)
    by_cases hv : validF ⟨rw0, cl0, cs, fr, fc⟩ = true
    case neg =>
      have hv0 : validF ⟨rw0, cl0, cs, fr, fc⟩ = false := by simpa using hv
      have HV := hide hv0
      have HP := hide (resF_bad (f := ⟨rw0, cl0, cs, fr, fc⟩) (rows := R') (cols := C') (by unfold resOk; rw [hv0, Bool.and_false]))
      obtain ⟨n', hn'⟩ : ∃ n', R' * C' = n' := ⟨_, rfl⟩
      rw [hn'] at HNW hs1 hs2
      clear hv hv0 hmay hn'
      go_enter Tryd.func43, Tryd.ntmps43
      go_wp2_with (first
        | (go_at_call 26; refine (new_frame _ _ _ (HBT.out.below HB0.out)).mono ?_; rintro e w1 ⟨v1, he, hown, hb1⟩; rw [HNW.out.2] at he; rw [HNW.out.1] at hown; subst he; obtain ⟨g, c1, rfl, hcm1, how, hBg⟩ := hown.open (n := n') (by rw [List.length_replicate]) (by omega); rw [World.size_alloc, World.size_alloc] at how hBg; have hgl := how.inb; obtain ⟨A9, c9, e9, hcc⟩ := how.form; rw [List.length_replicate] at e9 hcc; injection e9 with e9 e9' e9''; subst e9''; have HX2 := hide ((HX.out.below hb1).alloc (.cells #[.int .i64 R', .int .i64 C', .slice (some ⟨g, 0, none⟩) n' c1, .int .i64 0, .int .i64 0] 35)); have HB2 := hide ((HB0.out.trans (hb1.mono HB0.out.size)).alloc (Nat.le_trans HB0.out.size hb1.size) (.cells #[.int .i64 R', .int .i64 C', .slice (some ⟨g, 0, none⟩) n' c1, .int .i64 0, .int .i64 0] 35)); have HOW2 := hide (how.below ((Below.refl _ _).alloc (Nat.le_refl _) (.cells #[.int .i64 R', .int .i64 C', .slice (some ⟨g, 0, none⟩) n' c1, .int .i64 0, .int .i64 0] 35))); have HF2 := hide (show Blk (w1.alloc (.cells #[.int .i64 R', .int .i64 C', .slice (some ⟨g, 0, none⟩) n' c1, .int .i64 0, .int .i64 0] 35)) w1.heap.size 35 (frCells R' C' (.slice (some ⟨g, 0, none⟩) n' c1) 0 0) from Blk.new w1 _ _); have hzz := (HX.out.below hb1).2.lt; obtain ⟨⟨k0, k1, k2, k3, k4, kf⟩, z0, z1, z2, z3, z4, zf⟩ := HX2.out.reads; clear hown hb1 how e9 e9')
        | (go_at_call 24; go_loud (refine (valid_is _ _ HV.out _ _ (HFR.out _ HB2.out) (HT.out.below HB2.out)).mono ?_; rintro e w3 ⟨rfl, hb3⟩; have HX3 := hide (HX2.out.below hb3); have HB3 := hide (HB2.out.trans (hb3.mono HB2.out.size)); have HOW3 := hide (HOW2.out.below hb3); have HF3 := hide (HF2.out.below hb3); clear k0 k1 k2 k3 k4 kf z0 z1 z2 z3 z4 zf hb3; obtain ⟨⟨k0, k1, k2, k3, k4, kf⟩, z0, z1, z2, z3, z4, zf⟩ := HX3.out.reads))
        | fail)
      refine bodyPost_ret (results_cell_tmp rfl _ _ (w.heap.size + 1) 35 (frCells 0 0 (.slice none 0 0) 0 0).toArray (0, 0) _ (.int .i64 2) rfl rfl (fr_put HX3.out.2 0 0 (.slice none 0 0) 0 0) Tryd.underlying35 rfl (by kernel_rfl)) rfl ⟨_, by rw [HP.out.2], by rw [HP.out.1]; exact fr_nil _ _, fr_below HB3.out (Nat.le_succ _) _ _ _ _ _⟩
    case pos =>
      have HV := hide hv
      have HP := hide (resF_ok (f := ⟨rw0, cl0, cs, fr, fc⟩) (show resOk ⟨rw0, cl0, cs, fr, fc⟩ R' C' = true by unfold resOk; rw [hmay, hv]; rfl))
      obtain ⟨R, C, hR, hC, h1, h2, h3, h4, hL, q1, q2, q3, q4, hvl⟩ := valid_facts hv
      dsimp only at hR hC hL q1 q2 q3 q4 hvl
      subst hR hC
      obtain ⟨b, o, hA, -⟩ := ClsAt.at (j := 0) HCL.out (List.getElem?_eq_getElem (show 0 < cs.length by rw [hL]; have := (size_small h1 h2 h3 h4).1; omega))
      subst hA
      have hLs := (size_small h1 h2 h3 h4).2
      obtain ⟨n', hn'⟩ : ∃ n', R' * C' = n' := ⟨_, rfl⟩
      rw [hn'] at HNW hs1 hs2
      have hnRC : n = R * C := by rw [← HN.out]; exact hL
      have HNRC := hide hnRC
      have HVL := hide hvl
      have HN' := hide hn'
      obtain ⟨m, hm⟩ : ∃ m, min R' R = m := ⟨_, rfl⟩
      have hmz : min (R' : Int) (R : Int) = (m : Int) := by rw [← hm]; omega
      have hmR : m ≤ R ∧ m ≤ R' ∧ (m = R ∨ m = R') := by omega
      obtain ⟨d, hd⟩ : ∃ d, C' = d + 1 := ⟨C' - 1, by omega⟩
      have hdz : (C' : Int) - 1 = (d : Int) := by omega
      have HD := hide hd
      clear hd
      have hrz : (R' : Int) - 1 ≤ 100 := by omega
      rw [← hnRC] at hLs
      dsimp only at HP
      simp only [Int.toNat_natCast] at HP
      obtain ⟨fr2, hfr2⟩ : ∃ x, min fr ((R' : Int) - 1) = x := ⟨_, rfl⟩
      obtain ⟨fc2, hfc2⟩ : ∃ x, min fc (d : Int) = x := ⟨_, rfl⟩
      rw [hm, hdz, hfr2, hfc2] at HP
      clear hv hvl hL hnRC hmay hn' hm
      go_enter Tryd.func43, Tryd.ntmps43
      go_wp2_with (first
        | (go_at_call 26; refine (new_frame _ _ _ (HBT.out.below HB0.out)).mono ?_; rintro e w1 ⟨v1, he, hown, hb1⟩; rw [HNW.out.2] at he; rw [HNW.out.1] at hown; subst he; obtain ⟨g, c1, rfl, hcm1, how, hBg⟩ := hown.open (n := n') (by rw [List.length_replicate]) (by omega); rw [World.size_alloc, World.size_alloc] at how hBg; have hgl := how.inb; obtain ⟨A9, c9, e9, hcc⟩ := how.form; rw [List.length_replicate] at e9 hcc; injection e9 with e9 e9' e9''; subst e9''; have HX2 := hide ((HX.out.below hb1).alloc (.cells #[.int .i64 R', .int .i64 C', .slice (some ⟨g, 0, none⟩) n' c1, .int .i64 0, .int .i64 0] 35)); have HB2 := hide ((HB0.out.trans (hb1.mono HB0.out.size)).alloc (Nat.le_trans HB0.out.size hb1.size) (.cells #[.int .i64 R', .int .i64 C', .slice (some ⟨g, 0, none⟩) n' c1, .int .i64 0, .int .i64 0] 35)); have HOW2 := hide (how.below ((Below.refl _ _).alloc (Nat.le_refl _) (.cells #[.int .i64 R', .int .i64 C', .slice (some ⟨g, 0, none⟩) n' c1, .int .i64 0, .int .i64 0] 35))); have HF2 := hide (show Blk (w1.alloc (.cells #[.int .i64 R', .int .i64 C', .slice (some ⟨g, 0, none⟩) n' c1, .int .i64 0, .int .i64 0] 35)) w1.heap.size 35 (frCells R' C' (.slice (some ⟨g, 0, none⟩) n' c1) 0 0) from Blk.new w1 _ _); have hzz := (HX.out.below hb1).2.lt; obtain ⟨⟨k0, k1, k2, k3, k4, kf⟩, z0, z1, z2, z3, z4, zf⟩ := HX2.out.reads; clear hown hb1 how e9 e9')
        | (go_at_call 24; go_loud (refine (valid_is _ _ HV.out _ _ (HFR.out _ HB2.out) (HT.out.below HB2.out)).mono ?_; rintro e w3 ⟨rfl, hb3⟩; have HX3 := hide (HX2.out.below hb3); have HB3 := hide (HB2.out.trans (hb3.mono HB2.out.size)); have HOW3 := hide (HOW2.out.below hb3); have HF3 := hide (HF2.out.below hb3); clear k0 k1 k2 k3 k4 kf z0 z1 z2 z3 z4 zf hb3; obtain ⟨⟨k0, k1, k2, k3, k4, kf⟩, z0, z1, z2, z3, z4, zf⟩ := HX3.out.reads))
        | fail)
      have hgw : ¬ g = w1.heap.size := by omega
      have hgw' : ¬ w1.heap.size = g := by omega
      have hgz : w.heap.size + 1 < g := by omega
      have hwz : w.heap.size + 1 < w1.heap.size := by omega
      have hw0 : ¬ w1.heap.size = w.heap.size := by omega
      have hw8 : w.heap.size ≤ w1.heap.size := by omega
      have hgb : ¬ g = 2 := by omega
      have hgb' : ¬ 2 = g := by omega
      have hw9 : ¬ w1.heap.size = w.heap.size + 1 := by omega
      go_loopw [30] (fun iv wr => ∃ i : Nat, iv = .int .i64 i ∧ i ≤ m ∧ Hid (OwnC wr (w.heap.size + 1 + 1) (.slice (some ⟨g, 0, none⟩) n' c1) (resTo cs C C' R' i)) ∧ Hid (Bx2 wr w.heap.size R C (.slice (some ⟨b, o, none⟩) n cap) fr fc) ∧ Hid (Blk wr w1.heap.size 35 (frCells R' C' (.slice (some ⟨g, 0, none⟩) n' c1) 0 0)) ∧ Hid (BTab wr) ∧ Hid (Below w.heap.size w wr)) (fun iv _ => m - (intOf iv).toNat)
      case atStart => exact ⟨0, rfl, by omega, hide (by have h9 := HOW3.out; rw [← HN'.out] at h9 ⊢; exact h9), HX3, HF3, hide (HBT.out.below HB3.out), HB3⟩
      case round =>
        clear HX HX2 HX3 HB0 HB2 HB3 HOW2 HOW3 HF2 HF3 HBT k0 k1 k2 k3 k4 kf z0 z1 z2 z3 z4 zf
        obtain ⟨i, rfl, hi, HOW, HX, HF, HBT, HB⟩ := hrel
        obtain ⟨⟨k0, k1, k2, k3, k4, kf⟩, z0, z1, z2, z3, z4, zf⟩ := HX.out.reads
        obtain ⟨f0, f1, f2, f3, f4, ff⟩ := fr_reads HF.out
        have HM := hide (resTo_len cs C C' R' i (by omega))
        by_cases hlt : i < m
        · have hS := rowL_len (L := cs) (rows := R) (cols := C) (k := i) (by rw [HN.out]; exact HNRC.out) (by omega)
          have HS := hide hS
          have hp1 := part_len (L := cs) (R := R) (C := C) (i := i) (by rw [HN.out]; exact HNRC.out) (by omega)
          have hq1 := part_len HM.out (show i < R' by omega)
          rw [← HNRC.out] at hp1
          rw [HN'.out] at hq1
          have HMID := hide (fun k hk => res_mid (k := k) HM.out (show i < R' by omega) (res_row0 (by omega)) hS hk)
          have HLAST := hide (fun h => res_last (S := rowL cs C i) HM.out (show i < R' by omega) (by omega) h)
          have HSTAY := hide (fun h => @res_stay (resTo cs C C' R' i) (rowL cs C i) C' i h)
          have HGET := hide (res_get (S := rowL cs C i) HM.out (show i < R' by omega) (by omega))
          have HSUB := hide ((show ClsAt wr _ _ from HCL.out.below HB.out).sub (i * C) C)
          have HML := hide (replR_len HM.out (show i < R' by omega) (fill_len (rowL cs C i) C'))
          obtain ⟨p, hp⟩ : ∃ p, i * C = p := ⟨_, rfl⟩
          obtain ⟨q, hq⟩ : ∃ q, i * C' = q := ⟨_, rfl⟩
          have hw1 := wrap_mul hp (by omega)
          have hw2 := wrap_mul1 hp (by omega)
          have hw3 := wrap_mul hq (by omega)
          have hw4 := wrap_mul1 hq (by omega)
          rw [hp] at hp1 HSUB
          rw [hq] at hq1 HMID HLAST HGET
          have HSL := hide (show rowL cs C i = (cs.drop p).take C by rw [← hp]; rfl)
          clear hp hq hS
          rw [show C' - 1 = d by have := HD.out; omega] at HLAST HSTAY HGET
          obtain ⟨X, hX⟩ : ∃ X, (fillL (rowL cs C i) C').getD d blankC = X := ⟨_, rfl⟩
          rw [hX] at HLAST HSTAY HGET
          have hdC : d < C' := by have := HD.out; omega
          have hdCz : (d : Int) < (C' : Int) := by omega
          clear hX
          obtain ⟨xr, xw, xf, xb, xu, xi⟩ := X
          dsimp only at HLAST HSTAY
          obtain ⟨w5, hcp, how5, hg5⟩ := own_copy (w.heap.size + 1 + 1) g q n' c1 _ HOW.out (HM.out.trans HN'.out) C' (c1 - q) b (o + p * 6) C (cap - p) (rowL cs C i) HS.out (by rw [HSL.out]; exact HSUB.out) (min C C') rfl (by omega) 3
          rw [HMID.out _ rfl] at how5
          have HOW5 := hide how5
          have HX5 := hide (HX.out.grown hg5 hgz)
          have HF5 := hide (HF.out.grown hg5 hgw')
          have HBT5 := hide (HBT.out.keep hg5 hgb)
          have HB5 := hide (HB.out.grown hg5 HB.out.size (fun k e => by cases e; omega))
          obtain ⟨x0, x1, x2, x3, x4, x5⟩ := own_part (k := q) (j := d) HOW5.out HGET.out
          obtain ⟨t0, t1, t2, t3, t4, t5⟩ := HBT5.out
          have xg := fun i => HOW5.out.frozen i
          dsimp only at x0 x1 x2 x3 x4 x5
          clear hg5 how5
          by_cases hx2 : xw = 2
          · have HL2 := hide (HLAST.out hx2)
            subst hx2
            clear HLAST HSTAY
            go_wp2
            go_roundw
            case rel => exact ⟨i + 1, by go_num, by omega, hide (by have h9 := own_set_part HOW5.out (HML.out.trans HN'.out) (show q + d < n' by omega) blankC; rw [HL2.out] at h9; exact h9), hide (HX5.out.grown (grown6 _ g _ _ _ _ _ _ _ _ _ _ _ _) hgz), hide (HF5.out.grown (grown6 _ g _ _ _ _ _ _ _ _ _ _ _ _) hgw'), hide (HBT5.out.keep (grown6 _ g _ _ _ _ _ _ _ _ _ _ _ _) hgb), hide (HB5.out.grown (grown6 _ g _ _ _ _ _ _ _ _ _ _ _ _) HB5.out.size (fun k e => by cases e; omega))⟩
            case measure => simp [intOf]; omega
          · have HL2 := hide (HSTAY.out hx2)
            clear HLAST HSTAY
            go_wp2
            go_roundw
            case rel => exact ⟨i + 1, by go_num, by omega, hide (by have h9 := HOW5.out; rw [HL2.out] at h9; exact h9), HX5, HF5, HBT5, HB5⟩
            case measure => simp [intOf]; omega
        · obtain rfl : i = m := by omega
          go_wp2
          go_region
          all_goals go_wp2
          have key : ∀ WW, WW = (frSet ((wr.setCell ⟨w1.heap.size, 3, none⟩ (.int .i64 fr2)).setCell ⟨w1.heap.size, 4, none⟩ (.int .i64 fc2)) (w.heap.size + 1) R' C' (.slice (some ⟨g, 0, none⟩) n' c1) fr2 fc2).drew → Blk WW (w.heap.size + 1) 35 (frCells R' C' (.slice (some ⟨g, 0, none⟩) n' c1) fr2 fc2) ∧ OwnC WW (w.heap.size + 1 + 1) (.slice (some ⟨g, 0, none⟩) n' c1) (resTo cs C C' R' i) ∧ Below w.heap.size w WW := by
            rintro _ rfl
            exact ⟨(fr_put ((HX.out.2.far (p := ⟨w1.heap.size, 3, none⟩) hw9 (.int .i64 fr2)).far (p := ⟨w1.heap.size, 4, none⟩) hw9 (.int .i64 fc2)) R' C' (.slice (some ⟨g, 0, none⟩) n' c1) fr2 fc2).drew, own_drew (fr_low ((HOW.out.off (p := ⟨w1.heap.size, 3, none⟩) hgw' (.int .i64 fr2)).off (p := ⟨w1.heap.size, 4, none⟩) hgw' (.int .i64 fc2)) (Nat.lt_succ_self _) R' C' (.slice (some ⟨g, 0, none⟩) n' c1) fr2 fc2), (fr_below ((HB.out.setCell (p := ⟨w1.heap.size, 3, none⟩) hw8 (.int .i64 fr2)).setCell (p := ⟨w1.heap.size, 4, none⟩) hw8 (.int .i64 fc2)) (Nat.le_succ _) R' C' (.slice (some ⟨g, 0, none⟩) n' c1) fr2 fc2).drew⟩
          have hkey := key _ rfl
          unfold frSet at hkey
          refine bodyPost_ret (results_cell_tmp rfl _ _ (w.heap.size + 1) 35 (frCells R' C' (.slice (some ⟨g, 0, none⟩) n' c1) fr2 fc2).toArray (0, 0) _ (.int .i64 0) rfl rfl hkey.1 Tryd.underlying35 rfl (by kernel_rfl)) rfl ⟨_, by rw [HP.out.2], ?_, hkey.2.2⟩
          rw [HP.out.1]
          exact (fr_own (HM.out.trans HN'.out) hcm1 hkey.2.1).mono (show w.heap.size ≤ w.heap.size + 1 + 1 by omega)
end Go.Proofs.YtmemdhmjhckmaaaDoor
