/- regs.Show, the document's Show; plain: how many nodes, how deep. -/
import Derived.Test.YtfamoikmfbpigaaDoorFrshow
import Derived.Test.YtfamoikmfbpigaaDoorFmany
namespace Go.Proofs.YtfamoikmfbpigaaDoor
open Go.RowKit

mutual
theorem mayE_split : ∀ (n : Nd) (d : Nat), mayE d n = (rmayE n && decide (deepE n ≤ d))
  | .mk k S L, 0 => by
    rw [mayE, deepE, decide_eq_false (by omega), Bool.and_false]
  | .mk k S L, d + 1 => by
    have h := mayL_split L d
    rw [mayE, deepE, rmayE, h]
    rw [show decide (deepL L + 1 ≤ d + 1) = decide (deepL L ≤ d) from by rw [decide_eq_decide]; omega, Bool.and_assoc]
theorem mayL_split : ∀ (L : List Nd) (d : Nat), L.all (mayE d) = (rmayL L && decide (deepL L ≤ d))
  | [], d => by simp [rmayL, deepL]
  | x :: l, d => by
    have h1 := mayE_split x d
    have h2 := mayL_split l d
    rw [List.all_cons, h1, h2, rmayL, deepL]
    rw [show decide (max (deepE x) (deepL l) ≤ d) = (decide (deepE x ≤ d) && decide (deepL l ≤ d)) from by rw [← Bool.decide_and, decide_eq_decide]; omega]
    cases rmayE x <;> cases rmayL l <;> cases decide (deepE x ≤ d) <;> cases decide (deepL l ≤ d) <;> rfl
end
theorem manyL_ge (d : Nat) : ∀ (L : List Nd) (k : Nat), k ≤ manyL d L k
  | [], k => Nat.le_refl _
  | x :: l, k => by
    unfold manyL
    rw [List.foldl_cons]
    have := manyL_ge d l (if k ≤ 300 then k + manyE d x else k)
    unfold manyL at this
    refine Nat.le_trans ?_ this
    split <;> omega
theorem many_sz : ∀ (d : Nat) (n : Nd), manyE d n ≤ 300 → szN n = manyE d n ∧ deepE n ≤ d
  | 0, n, h => by simp [manyE] at h
  | d + 1, .mk k S L, h => by
    have key : ∀ (L : List Nd) (k : Nat), manyL d L k ≤ 300 → szL L + k = manyL d L k ∧ deepL L ≤ d := by
      intro L
      induction L with
      | nil => intro k h; unfold manyL; simp [szL, deepL]
      | cons x l ih =>
        intro k h
        have h0 : k ≤ 300 := Nat.le_trans (manyL_ge d (x :: l) k) h
        have e : manyL d (x :: l) k = manyL d l (k + manyE d x) := by unfold manyL; rw [List.foldl_cons, if_pos h0]
        rw [e] at h ⊢
        have h1 := manyL_ge d l (k + manyE d x)
        obtain ⟨i1, i2⟩ := ih _ h
        obtain ⟨j1, j2⟩ := many_sz d x (by omega)
        rw [szL, deepL]
        omega
    have := key L 1 (by unfold manyL; unfold manyE at h; exact h)
    unfold manyL at this
    rw [szN, manyE, deepE]
    omega
/-- What is shown of any node. -/
def wholeE (n : Nd) : List UInt8 := if rmayE n = true ∧ deepE n ≤ 200 then showE n else []
theorem whole_yes {n : Nd} (h : mayE 200 n = true) : rmayE n = true ∧ wholeE n = showE n := by
  rw [mayE_split, Bool.and_eq_true, decide_eq_true_eq] at h
  exact ⟨h.1, if_pos h⟩
theorem whole_no {n : Nd} (h : mayE 200 n = false) : wholeE n = [] := by
  rw [mayE_split] at h
  exact if_neg fun e => by rw [e.1, decide_eq_true e.2] at h; simp at h
theorem new_node {P : Nat → Prop} {w W : World} {n : Nd} {cs : List Value} (t : TypeId) (h : NdX P w n cs) (hb : Below w.heap.size (w.alloc (.cells cs.toArray t)) W) : NdX P W n cs := h.low (((Below.refl w.heap.size w).alloc (Nat.le_refl _) _).trans hb)
set_option maxHeartbeats 2000000 in
set_option maxRecDepth 100000 in
theorem whole_any (n : Nd) (cs : List Value) (P : Nat → Prop) (w : World) (hsz : szN n ≤ 2000) (hn : NdX P w n cs) :
    Calls Tryd.prog 16 #[.agg cs.toArray] w (StrP (wholeE n) w) := by
  obtain ⟨k, x0, x1, x2, x3, A, m, cap, rfl, -, -⟩ := hn.form
  have HB := hide (show Below w.heap.size w (w.alloc (.cells (ndL k [x0, x1, x2, x3] (.slice A m cap)).toArray 27)) from (Below.refl _ _).alloc (Nat.le_refl _) _)
  have HN := hide (fun (W : World) (h : Below w.heap.size w W) => hn.low h)
  have HY := hide (fun (h : mayE 200 n = true) => whole_yes h)
  have HZ := hide (fun (h : mayE 200 n = false) => whole_no h)
  have HM := hide (fun (W : World) (h : NdX P W n (ndL k [x0, x1, x2, x3] (.slice A m cap))) => show Calls Tryd.prog 29 #[.agg #[.int .i64 k, .int .u64 (x0 : Int), .int .u64 (x1 : Int), .int .u64 (x2 : Int), .int .u64 (x3 : Int), .slice A m cap], .int .i64 200] W (BoolP (mayE 200 n) W) from may_any (szN n + 1) n 200 _ P W (by omega) (by omega) h)
  have HS := hide (fun (W : World) (hr : rmayE n = true) (h : NdX P W n (ndL k [x0, x1, x2, x3] (.slice A m cap))) => show Calls Tryd.prog 30 #[.agg #[.int .i64 k, .int .u64 (x0 : Int), .int .u64 (x1 : Int), .int .u64 (x2 : Int), .int .u64 (x3 : Int), .slice A m cap]] W (StrP (showE n) W) from show_any (szN n + 1) n _ P W (by omega) hsz hr h)
  obtain ⟨y, hy⟩ : ∃ y, mayE 200 n = y := ⟨_, rfl⟩
  rw [hy] at HY HZ HM
  have HK := hide (Blk.new w 27 (ndL k [x0, x1, x2, x3] (.slice A m cap)))
  clear hy hn hsz
  rw [show (ndL k [x0, x1, x2, x3] (.slice A m cap)).toArray = #[.int .i64 k, .int .u64 (x0 : Int), .int .u64 (x1 : Int), .int .u64 (x2 : Int), .int .u64 (x3 : Int), .slice A m cap] from rfl]
  go_enter Tryd.func16, Tryd.ntmps16
  go_wp2_with fail
  refine (HM.out _ (HN.out _ HB.out)).mono ?_; rintro e w1 ⟨rfl, hb1⟩
  have HB1 := hide (HB.out.trans (hb1.mono HB.out.size))
  have HK1 := hide (HK.out.below hb1)
  have c0 := HK1.out.cell (i := 0) rfl
  have c1 := HK1.out.cell (i := 1) rfl
  have c2 := HK1.out.cell (i := 2) rfl
  have c3 := HK1.out.cell (i := 3) rfl
  have c4 := HK1.out.cell (i := 4) rfl
  have c5 := HK1.out.cell (i := 5) rfl
  clear hb1
  cases y with
  | false =>
    go_wp2
    go_ret
    exact StrP.mk (by rw [HZ.out (by first | trivial | rfl)]) rfl HB1.out
  | true =>
    go_wp2_with fail
    refine (HS.out _ (HY.out (by first | trivial | rfl)).1 (HN.out _ HB1.out)).mono ?_; rintro e w2 ⟨rfl, hb2⟩
    go_wp2
    go_ret
    exact StrP.mk (by rw [(HY.out (by first | trivial | rfl)).2]) rfl (HB1.out.trans (hb2.mono HB1.out.size))
set_option maxHeartbeats 2000000 in
set_option maxRecDepth 100000 in
theorem rwhole_any (n : Nd) (cs : List Value) (P : Nat → Prop) (w : World) (hsz : szN n ≤ 2000) (hn : NdX P w n cs) :
    Calls Tryd.prog 17 #[.agg cs.toArray] w (StrP (wholeE n) w) := by
  obtain ⟨k, x0, x1, x2, x3, A, m, cap, rfl, -, -⟩ := hn.form
  have HB := hide (show Below w.heap.size w (w.alloc (.cells (ndL k [x0, x1, x2, x3] (.slice A m cap)).toArray 33)) from (Below.refl _ _).alloc (Nat.le_refl _) _)
  have HN := hide (fun (W : World) (h : Below w.heap.size w W) => hn.low h)
  obtain ⟨y, hy⟩ : ∃ y, rmayE n = y := ⟨_, rfl⟩
  obtain ⟨D, hD⟩ : ∃ D, deepE n = D := ⟨_, rfl⟩
  have hdz : D ≤ 2000 := by rw [← hD]; exact Nat.le_trans (deep_sz n) hsz
  have HY := hide (show y = true → D ≤ 200 → wholeE n = showE n by rw [← hy, ← hD]; exact fun h1 h2 => if_pos ⟨h1, h2⟩)
  have HZ := hide (show ¬ (y = true ∧ D ≤ 200) → wholeE n = [] by rw [← hy, ← hD]; exact fun h => if_neg h)
  have HM := hide (fun (W : World) (h : NdX P W n (ndL k [x0, x1, x2, x3] (.slice A m cap))) => show Calls Tryd.prog 31 #[.agg #[.int .i64 k, .int .u64 (x0 : Int), .int .u64 (x1 : Int), .int .u64 (x2 : Int), .int .u64 (x3 : Int), .slice A m cap]] W (BoolP y W) from by rw [← hy]; exact rmay_any (szN n + 1) n _ P W (by omega) h)
  have HDp := hide (fun (W : World) (h : NdX P W n (ndL k [x0, x1, x2, x3] (.slice A m cap))) => show Calls Tryd.prog 32 #[.agg #[.int .i64 k, .int .u64 (x0 : Int), .int .u64 (x1 : Int), .int .u64 (x2 : Int), .int .u64 (x3 : Int), .slice A m cap]] W (NatP D W) from by rw [← hD]; exact deep_any (szN n + 1) n _ P W (by omega) (by omega) h)
  have HS := hide (fun (W : World) (hr : y = true) (h : NdX P W n (ndL k [x0, x1, x2, x3] (.slice A m cap))) => show Calls Tryd.prog 33 #[.agg #[.int .i64 k, .int .u64 (x0 : Int), .int .u64 (x1 : Int), .int .u64 (x2 : Int), .int .u64 (x3 : Int), .slice A m cap]] W (StrP (showE n) W) from rshow_any (szN n + 1) n _ P W (by omega) hsz (hy.trans hr) h)
  have HK := hide (Blk.new w 33 (ndL k [x0, x1, x2, x3] (.slice A m cap)))
  clear hy hn hsz hD
  rw [show (ndL k [x0, x1, x2, x3] (.slice A m cap)).toArray = #[.int .i64 k, .int .u64 (x0 : Int), .int .u64 (x1 : Int), .int .u64 (x2 : Int), .int .u64 (x3 : Int), .slice A m cap] from rfl]
  go_enter Tryd.func17, Tryd.ntmps17
  go_wp2_with fail
  refine (HM.out _ (HN.out _ HB.out)).mono ?_; rintro e w1 ⟨rfl, hb1⟩
  have HB1 := hide (HB.out.trans (hb1.mono HB.out.size))
  have HK1 := hide (HK.out.below hb1)
  have c0 := HK1.out.cell (i := 0) rfl
  have c1 := HK1.out.cell (i := 1) rfl
  have c2 := HK1.out.cell (i := 2) rfl
  have c3 := HK1.out.cell (i := 3) rfl
  have c4 := HK1.out.cell (i := 4) rfl
  have c5 := HK1.out.cell (i := 5) rfl
  clear hb1
  cases y with
  | false =>
    go_wp2
    go_ret
    exact StrP.mk (by rw [HZ.out (by simp)]) rfl HB1.out
  | true =>
    go_wp2_with fail
    refine (HDp.out _ (HN.out _ HB1.out)).mono ?_; rintro e w2 ⟨rfl, hb2⟩
    have HB2 := hide (HB1.out.trans (hb2.mono HB1.out.size))
    have HK2 := hide (HK1.out.below hb2)
    have d0 := HK2.out.cell (i := 0) rfl
    have d1 := HK2.out.cell (i := 1) rfl
    have d2 := HK2.out.cell (i := 2) rfl
    have d3 := HK2.out.cell (i := 3) rfl
    have d4 := HK2.out.cell (i := 4) rfl
    have d5 := HK2.out.cell (i := 5) rfl
    clear hb2
    by_cases h2 : 200 < D
    · go_wp2
      go_ret
      exact StrP.mk (by rw [HZ.out (by omega)]) rfl HB2.out
    · go_wp2_with fail
      refine (HS.out _ (by first | trivial | rfl) (HN.out _ HB2.out)).mono ?_; rintro e w3 ⟨rfl, hb3⟩
      go_wp2
      go_ret
      exact StrP.mk (by rw [HY.out (by first | trivial | rfl) (by omega)]) rfl (HB2.out.trans (hb3.mono HB2.out.size))
end Go.Proofs.YtfamoikmfbpigaaDoor
