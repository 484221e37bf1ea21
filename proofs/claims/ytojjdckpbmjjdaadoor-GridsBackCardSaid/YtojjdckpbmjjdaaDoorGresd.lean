/- Plain: the steps of making a frame of another size, on both sides. A copy into a part of a slice of the call's own. -/
import Derived.Test.YtojjdckpbmjjdaaDoorGnew
import Derived.Test.YtojjdckpbmjjdaaDoorGputd
import Derived.Test.YtojjdckpbmjjdaaDoorGkeep
namespace Go.Proofs.YtojjdckpbmjjdaaDoor
open Go.RowKit

theorem part_len {L : List Cl} {R C i : Nat} (hL : L.length = R * C) (hi : i < R) : i * C + C ≤ R * C := by
  have : (i + 1) * C ≤ R * C := Nat.mul_le_mul_right _ hi
  rw [Nat.add_mul, Nat.one_mul] at this
  exact this
theorem res_row0 {cs : List Cl} {C n R' i : Nat} (hi : i < R') : rowL (resTo cs C n R' i) n i = List.replicate n blankC := by
  rw [resTo_row _ _ _ _ i (by omega) i hi, if_neg (by omega)]
/-- Behind the copy of a row. -/
theorem res_mid {M S : List Cl} {C n R' i k : Nat} (hM : M.length = R' * n) (hi : i < R') (h0 : rowL M n i = List.replicate n blankC) (hS : S.length = C) (hk : k = min C n) : M.take (i * n) ++ S.take k ++ M.drop (i * n + k) = replR M n i (fillL S n) := by
  have h1 := part_len hM hi
  have h2 : (i + 1) * n = i * n + n := by rw [Nat.add_mul, Nat.one_mul]
  have e1 : (M.take (i * n)).length = i * n := by rw [List.length_take]; omega
  have e2 : (S.take k).length = k := by rw [List.length_take]; omega
  apply List.ext_getElem?
  intro j
  rw [replR_at hM hi (fill_len _ _), fill_at]
  have hkn : k ≤ n ∧ k ≤ C ∧ (C ≤ k ∨ n ≤ k) := by omega
  rw [h2]
  obtain ⟨p, hp⟩ : ∃ p, i * n = p := ⟨_, rfl⟩
  rw [hp] at e1 h1 ⊢
  by_cases a : j < p
  · rw [if_neg (show ¬ (p ≤ j ∧ j < p + n) by omega), List.append_assoc, List.getElem?_append_left (by omega), List.getElem?_take_of_lt a]
  by_cases b : j < p + k
  · have hx := List.getElem?_eq_getElem (show j - p < S.length by omega)
    rw [if_pos (show p ≤ j ∧ j < p + n by omega), if_pos (show j - p < n by omega), List.getElem?_append_left (by rw [List.length_append]; omega), List.getElem?_append_right (by omega), e1, List.getElem?_take_of_lt (by omega), getD_some hx, hx]
  · rw [List.getElem?_append_right (by rw [List.length_append]; omega), List.length_append, e1, e2, List.getElem?_drop, show p + k + (j - (p + k)) = j by omega]
    by_cases c : j < p + n
    · rw [if_pos (show p ≤ j ∧ j < p + n by omega), if_pos (show j - p < n by omega), List.getD_eq_getElem?_getD, List.getElem?_eq_none (show S.length ≤ j - p by omega)]
      have := congrArg (fun l => l[j - p]?) h0
      simp only [rowL_at (show j - p < n by omega), List.getElem?_replicate, show j - p < n by omega, if_true] at this
      rw [hp, show p + (j - p) = j by omega] at this
      exact this
    · rw [if_neg (show ¬ (p ≤ j ∧ j < p + n) by omega)]
theorem res_last {M S : List Cl} {n R' i : Nat} (hM : M.length = R' * n) (hi : i < R') (hn : 0 < n) (h : ((fillL S n).getD (n - 1) blankC).w = 2) : (replR M n i (fillL S n)).set (i * n + (n - 1)) blankC = replR M n i (rowR S n) := by
  rw [replR_set hM hi (fill_len _ _) (by omega)]
  unfold rowR
  rw [if_pos h]
theorem res_stay {M S : List Cl} {n i : Nat} (h : ¬ ((fillL S n).getD (n - 1) blankC).w = 2) : replR M n i (fillL S n) = replR M n i (rowR S n) := by
  unfold rowR
  rw [if_neg h]
theorem res_get {M S : List Cl} {n R' i : Nat} (hM : M.length = R' * n) (hi : i < R') (hn : 0 < n) : (replR M n i (fillL S n))[i * n + (n - 1)]? = some ((fillL S n).getD (n - 1) blankC) := by
  have h1 := part_len hM hi
  have h2 : (i + 1) * n = i * n + n := by rw [Nat.add_mul, Nat.one_mul]
  have hx := List.getElem?_eq_getElem (show n - 1 < (fillL S n).length by rw [fill_len]; omega)
  rw [replR_at hM hi (fill_len _ _), if_pos (by omega), show i * n + (n - 1) - i * n = n - 1 by omega, getD_some hx, hx]
theorem res_doc0 {M S : List Cl} {n R' i : Nat} (hM : M.length = R' * n) (hi : i < R') (h0 : rowL M n i = List.replicate n blankC) : M = replR M n i (fillL (S.take 0) n) := by
  rw [fill_0, ← h0, replR_self hM hi]
theorem res_doc1 {M S : List Cl} {n R' i j : Nat} {x : Cl} (hM : M.length = R' * n) (hi : i < R') (hj : j < n) (hx : S[j]? = some x) : (replR M n i (fillL (S.take j) n)).set (i * n + j) x = replR M n i (fillL (S.take (j + 1)) n) := by
  rw [replR_set hM hi (fill_len _ _) hj, fill_step S n j x hx hj]
theorem res_doc2 {M S : List Cl} {C n R' i : Nat} (hM : M.length = R' * n) (hi : i < R') (hn : 0 < n) (hS : S.length = C) (hr : rowB S = true) : mended (replR M n i (fillL (S.take (min n C)) n)) (i * n) n = replR M n i (rowR S n) := by
  rw [mended_row hM hi (fill_len _ _), fill_cut _ _ _ (by omega), mend_fill hr hn]
theorem flatC_cut {L : List Cl} {k : Nat} (h : k ≤ L.length) : (flatC L).take (k * 6) = flatC (L.take k) ∧ (flatC L).drop (k * 6) = flatC (L.drop k) := by
  have e : flatC (L.take k) ++ flatC (L.drop k) = flatC L := by rw [← flatC_app, List.take_append_drop]
  have hl : (flatC (L.take k)).length = k * 6 := by rw [flatC_len, List.length_take, Nat.min_eq_left h]
  exact ⟨by rw [← e, List.take_left' hl], by rw [← e, List.drop_left' hl]⟩
theorem splice_flat {cl : List Value} {L S : List Cl} {q n : Nat} (hn : L.length = n) (hl : n * 6 ≤ cl.length) (ht : cl.take (n * 6) = flatC L) (hq : q + S.length ≤ n) :
    (cl.take (q * 6) ++ flatC S ++ cl.drop (q * 6 + S.length * 6)).take (n * 6) = flatC (L.take q ++ S ++ L.drop (q + S.length)) := by
  have hc : cl = flatC L ++ cl.drop (n * 6) := by rw [← ht, List.take_append_drop]
  have hfl : (flatC L).length = n * 6 := by rw [flatC_len, hn]
  obtain ⟨a1, -⟩ := flatC_cut (L := L) (k := q) (by omega)
  obtain ⟨-, a2⟩ := flatC_cut (L := L) (k := q + S.length) (by omega)
  have h6 : q * 6 + S.length * 6 = (q + S.length) * 6 := by omega
  obtain ⟨r, hr⟩ : ∃ r, cl = flatC L ++ r := ⟨_, hc⟩
  have t1 : cl.take (q * 6) = flatC (L.take q) := by rw [hr, List.take_append_of_le_length (by omega), a1]
  have t2 : cl.drop (q * 6 + S.length * 6) = flatC (L.drop (q + S.length)) ++ r := by rw [hr, h6, List.drop_append_of_le_length (by omega), a2]
  rw [t1, t2, ← List.append_assoc, ← flatC_app, ← flatC_app]
  exact List.take_left' (by rw [flatC_len, List.length_append, List.length_append, List.length_take, List.length_drop]; omega)
/-- A copy into a part of a slice of the call's own. -/
theorem own_copy {w : World} (B g q n c : Nat) (L : List Cl) (h : OwnC w B (.slice (some ⟨g, 0, none⟩) n c) L) (hn : L.length = n) (dLen dCap : Nat)
    (b o sLen sCap : Nat) (S : List Cl) (hS : S.length = sLen) (hcl : ClsAt w (some ⟨b, o, none⟩) S) (k : Nat) (hk : k = min sLen dLen) (hq : q + k ≤ n) (ty : TypeId) :
    ∃ w', (Builtin.copy_ #[26, 26] ty #[.slice (some ⟨g, q * 6, none⟩) dLen dCap, .slice (some ⟨b, o, none⟩) sLen sCap]).run Tryd.prog w = .ok (goInt k) w' ∧ OwnC w' B (.slice (some ⟨g, 0, none⟩) n c) (L.take q ++ S.take k ++ L.drop (q + k)) ∧ w.grownBy w' (some g) := by
  subst hn hS
  have hbase := h.base
  rcases h.2 with ⟨e, h0⟩ | ⟨g', cap, cur, e, hg, hh, hcc, hmx, hsz, htk⟩
  · cases e
  injection e with e e2 e3
  injection e with e
  injection e with e
  subst e e3
  have hkl : (flatC (S.take k)).length = k * 6 := by rw [flatC_len, List.length_take]; omega
  have hcl2 : ClsAt w (some ⟨b, o, none⟩) (S.take k) := by
    have := hcl.sub 0 k
    rw [Nat.zero_mul, Nat.add_zero, List.drop_zero] at this
    exact this
  have hq6 : q * 6 + k * 6 ≤ cur.size := by
    rw [hsz]
    have : (q + k) * 6 ≤ c * 6 := Nat.mul_le_mul_right _ (by omega)
    omega
  have hSk : (S.take k).length = k := by rw [List.length_take]; omega
  obtain ⟨cl, rfl⟩ : ∃ cl : List Value, cur = cl.toArray := ⟨cur.toList, by simp⟩
  simp only [List.size_toArray] at hq6 hsz
  have htk' : cl.take (L.length * 6) = flatC L := by simpa using htk
  have hnc : L.length * 6 ≤ cl.length := by rw [hsz]; exact Nat.mul_le_mul_right _ hcc
  have hfl := splice_flat (S := S.take k) (q := q) rfl hnc htk' (by rw [hSk]; exact hq)
  rw [hSk] at hfl
  obtain ⟨N, hN⟩ : ∃ N, cl.take (q * 6) ++ flatC (S.take k) ++ cl.drop (q * 6 + k * 6) = N := ⟨_, rfl⟩
  have hNl : N.length = c * 6 := by rw [← hN, List.length_append, List.length_append, List.length_take, List.length_drop, hkl]; omega
  have hLl : (L.take q ++ S.take k ++ L.drop (q + k)).length = L.length := by rw [List.length_append, List.length_append, List.length_take, List.length_take, List.length_drop]; omega
  have hm : Nat.min S.length dLen = k := hk.symm
  have hrun := run_copy_rowN (P := Tryd.prog) w 26 26 ty 52 6 g (q * 6) dLen dCap ⟨b, o, none⟩ S.length sCap cl.toArray _ (flatC (S.take k)) Tryd.underlying26 infoC2 hh (by rw [hkl, hm]) hcl2.flat (by rw [hkl]; simpa using hq6) (flatC_one _)
  rw [hm, hkl] at hrun
  simp only [] at hrun
  rw [hN] at hrun hfl
  have hh2 := setRow_heap w g cl.toArray N.toArray _ (0, 0) hh
  have hown : OwnC (w.setRow g N.toArray) B (.slice (some ⟨g, 0, none⟩) L.length c) (L.take q ++ S.take k ++ L.drop (q + k)) := by
    refine ⟨by rw [flatC_len], .inr ⟨g, c, N.toArray, ?_, hg, hh2, by rw [hLl]; exact hcc, hmx, by simpa using hNl, ?_⟩⟩
    · rw [hLl]
    · rw [hLl]; simpa using hfl
  have hgr : w.grownBy (w.setRow g N.toArray) (some g) := by
    refine ⟨by simp [World.setRow], by simp [World.setRow], by simp [World.setRow], by simp [World.setRow], fun j hj hne => ?_⟩
    have : g ≠ j := fun e => hne (by rw [e])
    simp [World.setRow, Array.getElem?_modify, this]
  exact ⟨_, hrun, hown, hgr⟩
end Go.Proofs.YtojjdckpbmjjdaaDoor
