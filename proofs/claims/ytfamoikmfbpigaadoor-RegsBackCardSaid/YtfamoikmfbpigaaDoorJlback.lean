/- RegsBack: the walk. -/
import Derived.Test.YtfamoikmfbpigaaDoorJlnode
namespace Go.Proofs.YtfamoikmfbpigaaDoor
open Go.RowKit

set_option maxHeartbeats 4000000 in
set_option maxRecDepth 100000 in
theorem lawBack (r : Nat) (s : ByteArray) (w : World) (hM : s.size ≤ maxLen) (hS : SGr r w) :
    Calls Tryd.prog 6 #[.string s] w fun e W' => e = .returned (.bool true) ∧ Below w.heap.size w W' := by
  have HP := hide (parse_all r s w hM hS)
  have HS0 := hide hS
  have hw1 := parse_ways s
  have hg := parse_good s
  obtain ⟨n, hn0⟩ : ∃ n, (parseP s).1 = n := ⟨_, rfl⟩
  obtain ⟨e0, he0⟩ : ∃ e, (parseP s).2 = e := ⟨_, rfl⟩
  rw [hn0, he0] at HP hw1 hg
  have HG := hide (show e0 = 0 → s.size ≤ 200 ∧ szN n ≤ 401 ∧ ∃ t : ByteArray, bl (wholeE n) = t ∧ 1 ≤ t.size ∧ t.size ≤ 1000000 ∧ (200 < t.size ∧ (parseP t).2 = 3 ∨ t.size ≤ 200 ∧ parseP t = (n, 0)) from fun h => by
    obtain ⟨g1, g2, g3, g4, g5⟩ := hg h
    refine ⟨g1, g5, _, rfl, ?_⟩
    have hwh : wholeE n = showE n := if_pos ⟨g2, g4⟩
    rw [bl_size, hwh]
    have h1 := show_pos g2
    have h2 := show_len n
    refine ⟨h1, by omega, ?_⟩
    by_cases hl : 200 < (showE n).length
    · exact .inl ⟨hl, parse_long_show _ hl⟩
    · exact .inr ⟨by omega, parse_show n g2 g3 (by omega)⟩)
  have HW := hide hw1
  unfold maxLen at hM
  clear hn0 he0 hw1 hg hS
  go_enter Tryd.func6, Tryd.ntmps6
  go_wp2_with fail
  refine HP.out.mono ?_; rintro e w1 ⟨cs, rfl, hn1, hb1⟩
  have hx := NdX.of _ _ hn1
  obtain ⟨k, x0, x1, x2, x3, A, m, cap, rfl, -, -⟩ := hx.form
  have HB := hide (box_any hx hb1)
  have HO1 := hide (show OneB r w (w1.alloc (.cells (ndL k [x0, x1, x2, x3] (.slice A m cap)).toArray 27)) w1.heap.size n _ _ from ⟨HB.out.2.2, HB.out.1, HB.out.2.1, HS0.out.below HB.out.2.1⟩)
  clear HP hn1 hx hb1 HB HS0
  rw [show (ndL k [x0, x1, x2, x3] (.slice A m cap)).toArray = #[.int .i64 k, .int .u64 (x0 : Int), .int .u64 (x1 : Int), .int .u64 (x2 : Int), .int .u64 (x3 : Int), .slice A m cap] from rfl] at HO1 ⊢
  by_cases he : e0 = 0
  · subst he
    obtain ⟨g1, g2, t, g3, g4, g5, g6⟩ := HG.out rfl
    have hne := ne_emp (s := t) (by omega)
    have HSH := hide (fun (W : World) (h : NdX (fun b => w.heap.size ≤ b) W n (ndL k [x0, x1, x2, x3] (.slice A m cap))) => show Calls Tryd.prog 16 #[.agg #[.int .i64 k, .int .u64 (x0 : Int), .int .u64 (x1 : Int), .int .u64 (x2 : Int), .int .u64 (x3 : Int), .slice A m cap]] W (fun e w' => e = .returned (.string t) ∧ Below W.heap.size W w') from by rw [← g3]; exact whole_any n _ _ W (by omega) h)
    have HSH2 := hide (fun (cs : List Value) (P : Nat → Prop) (W : World) (h : NdX P W n cs) => show Calls Tryd.prog 16 #[.agg cs.toArray] W (fun e w' => e = .returned (.string t) ∧ Below W.heap.size W w') from by rw [← g3]; exact whole_any n _ P W (by omega) h)
    have HT := hide g6
    have HPA := hide (fun W (h : SGr r W) => parse_any r t W g5 h)
    clear g3 g6 HG HW g2
    go_wp2_with fail
    refine (HSH.out _ HO1.out.2.1).mono ?_; rintro e w2 ⟨rfl, hb2⟩
    have HO2 := hide (HO1.out.low hb2)
    clear HO1 hb2 HSH
    go_wp2_with fail
    refine (HPA.out _ HO2.out.2.2.2).mono ?_; rintro e w3 ⟨ds, rfl, hn3, hb3⟩
    have HO3 := hide (HO2.out.low hb3)
    have hx := NdX.of _ _ hn3
    obtain ⟨k', y0, y1, y2, y3, A', m', cap', rfl, -, -⟩ := hx.form
    have HN := hide (box_any hx (Below.refl _ _))
    have HO4 := hide (HO3.out.low HN.out.2.1)
    clear HO2 HO3 hn3 hx hb3
    rw [show (ndL k' [y0, y1, y2, y3] (.slice A' m' cap')).toArray = #[.int .i64 k', .int .u64 (y0 : Int), .int .u64 (y1 : Int), .int .u64 (y2 : Int), .int .u64 (y3 : Int), .slice A' m' cap'] from rfl] at HN HO4 ⊢
    rcases HT.out with ⟨hl, h3⟩ | ⟨hl, hpt⟩
    · rw [h3]
      clear h3 HT
      go_wp2_with fail
      refine (ruled_any r _ HO4.out.2.2.2).mono ?_; rintro e w5 ⟨rfl, hb5⟩
      go_wp2
      go_ret
      exact ⟨rfl, HO4.out.2.2.1.trans (hb5.mono HO4.out.2.2.1.size)⟩
    · rw [hpt] at HN ⊢
      have HSA := hide (same_any (szN n + 1) n n _ _ _ _ _ (by omega) HO4.out.2.1 HN.out.1)
      rw [show (ndL k [x0, x1, x2, x3] (.slice A m cap)).toArray = #[.int .i64 k, .int .u64 (x0 : Int), .int .u64 (x1 : Int), .int .u64 (x2 : Int), .int .u64 (x3 : Int), .slice A m cap] from rfl, show (ndL k' [y0, y1, y2, y3] (.slice A' m' cap')).toArray = #[.int .i64 k', .int .u64 (y0 : Int), .int .u64 (y1 : Int), .int .u64 (y2 : Int), .int .u64 (y3 : Int), .slice A' m' cap'] from rfl] at HSA
      have HN4 := hide (show OneB r w _ w3.heap.size n (ndL k' [y0, y1, y2, y3] (.slice A' m' cap')) _ from ⟨HN.out.2.2, HN.out.1, HO4.out.2.2.1, HO4.out.2.2.2⟩)
      clear HT hpt HN
      have c0 := HO4.out.1.cell (i := 0) rfl
      have c1 := HO4.out.1.cell (i := 1) rfl
      have c2 := HO4.out.1.cell (i := 2) rfl
      have c3 := HO4.out.1.cell (i := 3) rfl
      have c4 := HO4.out.1.cell (i := 4) rfl
      have c5 := HO4.out.1.cell (i := 5) rfl
      go_wp2_with fail
      refine HSA.out.mono ?_; rintro e w5 ⟨b5, rfl, hb, hb5⟩
      obtain rfl := hb.2 rfl
      have HN5 := hide (HN4.out.low hb5)
      have d0 := HN5.out.1.cell (i := 0) rfl
      have d1 := HN5.out.1.cell (i := 1) rfl
      have d2 := HN5.out.1.cell (i := 2) rfl
      have d3 := HN5.out.1.cell (i := 3) rfl
      have d4 := HN5.out.1.cell (i := 4) rfl
      have d5 := HN5.out.1.cell (i := 5) rfl
      have HS5 := hide (HSH2.out _ _ _ HN5.out.2.1)
      rw [show (ndL k' [y0, y1, y2, y3] (.slice A' m' cap')).toArray = #[.int .i64 k', .int .u64 (y0 : Int), .int .u64 (y1 : Int), .int .u64 (y2 : Int), .int .u64 (y3 : Int), .slice A' m' cap'] from rfl] at HS5
      clear HO4 hb5 hb c0 c1 c2 c3 c4 c5 HN4
      go_wp2_with fail
      refine HS5.out.mono ?_; rintro e w6 ⟨rfl, hb6⟩
      have HN6 := hide (HN5.out.low hb6)
      clear HN5 hb6 d0 d1 d2 d3 d4 d5
      go_wp2_with fail
      refine (ruled_any r _ HN6.out.2.2.2).mono ?_; rintro e w7 ⟨rfl, hb7⟩
      go_wp2
      go_ret
      exact ⟨rfl, HN6.out.2.2.1.trans (hb7.mono HN6.out.2.2.1.size)⟩
  · have hw1 := HW.out.resolve_left he
    obtain ⟨hway, rfl⟩ := hw1
    have hl0 := NdAt.leaf (w.heap.size) (w1.alloc (.cells #[.int .i64 k, .int .u64 (x0 : Int), .int .u64 (x1 : Int), .int .u64 (x2 : Int), .int .u64 (x3 : Int), .slice A m cap] 27)) 0 noSet_w
    have HSA := hide (same_any 2 (.mk 0 noSet []) (.mk 0 noSet []) _ _ _ _ _ (by simp [szN, szL]) HO1.out.2.1 (NdX.of _ _ hl0))
    rw [show (ndL k [x0, x1, x2, x3] (.slice A m cap)).toArray = #[.int .i64 k, .int .u64 (x0 : Int), .int .u64 (x1 : Int), .int .u64 (x2 : Int), .int .u64 (x3 : Int), .slice A m cap] from rfl, show (ndL 0 noSet (.slice none 0 0)).toArray = #[.int .i64 0, .int .u64 0, .int .u64 0, .int .u64 0, .int .u64 0, .slice none 0 0] from rfl] at HSA
    clear hl0 HG HW
    rcases hway with ⟨rfl, hl⟩ | rfl
    all_goals
      go_wp2_with fail
      refine HSA.out.mono ?_; rintro e w5 ⟨b5, rfl, hb, hb5⟩
      obtain rfl := hb.2 rfl
      have HO5 := hide (HO1.out.low hb5)
      clear HO1 hb5 hb
      go_wp2_with fail
      refine (ruled_any r _ HO5.out.2.2.2).mono ?_; rintro e w6 ⟨rfl, hb6⟩
      go_wp2
      go_ret
      exact ⟨rfl, HO5.out.2.2.1.trans (hb6.mono HO5.out.2.2.1.size)⟩
end Go.Proofs.YtfamoikmfbpigaaDoor
