/- Contract of grids.row. -/
import Derived.Test.YtojjdckpbmjjdaaDoorGsmall
import Derived.Test.YtojjdckpbmjjdaaDoorGput
import Derived.Test.YtojjdckpbmjjdaaDoorGeq
namespace Go.Proofs.YtojjdckpbmjjdaaDoor
open Go.RowKit

theorem ClsAt.tail {W : World} {b o : Nat} {L : List Cl} (h : ClsAt W (some ⟨b, o, none⟩) L) (k : Nat) : ClsAt W (some ⟨b, o + k * 6, none⟩) (L.drop k) := by
  have := h.sub k L.length
  rwa [List.take_of_length_le (by simp)] at this
def lnOf : Value → Nat | .slice _ n _ => n | _ => 0
/-- A slice that reads as these cells, with its numbers. -/
def SlC (W : World) (v : Value) (L : List Cl) : Prop := ∃ A n cap, v = .slice A n cap ∧ n = L.length ∧ n ≤ cap ∧ cap ≤ maxLen ∧ ClsAt W A L
theorem SlC.below {w W : World} {v : Value} {L : List Cl} (h : SlC w v L) (hb : Below w.heap.size w W) : SlC W v L := by
  obtain ⟨A, n, cap, e, h1, h2, h3, h4⟩ := h
  exact ⟨A, n, cap, e, h1, h2, h3, h4.below hb⟩
theorem row_bad {c : Cl} {t : List Cl} (h : ¬ c.w = 1) (h2 : ¬ c.w = 2) : rowB (c :: t) = false := by
  cases t with
  | nil => simp [rowB, h]
  | cons d t => simp [rowB, h, h2]
theorem row_one {c : Cl} {t : List Cl} (h : c.w = 1) : rowB (c :: t) = (decide (cells c.r = 1) && styC c && rowB t) := by
  cases t with
  | nil => simp [rowB, h]
  | cons d t => simp [rowB, h]
theorem row_last {c : Cl} (h : c.w = 2) : rowB [c] = false := by simp [rowB, h]
theorem row_two {c d : Cl} {t : List Cl} (h : c.w = 2) : rowB (c :: d :: t) = (decide (cells c.r = 2) && styC c && decide (d = halfC c) && rowB t) := by simp [rowB, h]
/-- A slice that is cut in front. -/
theorem sl_front {W W' : World} {b o n cap k : Nat} {l : List Cl} (h : ClsAt W (some ⟨b, o, none⟩) l) (hn : n = l.length) (hc : n ≤ cap) (hb : Below W.heap.size W W') : ClsAt W' (if cap = k then some ⟨b, o, none⟩ else some ⟨b, o + k * 6, none⟩) (l.drop k) := by
  by_cases e : cap = k
  · rw [List.drop_eq_nil_of_le (by omega)]
    intro j c hj
    simp at hj
  · rw [if_neg e]
    exact (h.tail k).below hb
theorem below_drewG {B : Nat} {a w : World} (h : Below B a w) (n : Nat) : Below B a (w.drewN n) := ⟨h.os, h.tape, h.output, h.size, h.block⟩

set_option maxRecDepth 100000 in
set_option maxHeartbeats 4000000 in
theorem row_any (L : List Cl) (v : Value) (w : World) (h : SlC w v L) (hT : WTabs w) :
    Calls Tryd.prog 44 #[v] w fun e w' => e = .returned (.bool (rowB L)) ∧ Below w.heap.size w w' := by
  have HT := hide hT
  have H := hide h
  obtain ⟨A0, n0, cap0, rfl, -⟩ := h
  clear hT
  go_enter Tryd.func44, Tryd.ntmps44
  go_wp2
  go_loopw [0] (fun v wr => ∃ (A : Option Addr) (n cap : Nat) (l : List Cl), v = .slice A n cap ∧ Hid (n = l.length) ∧ n ≤ cap ∧ cap ≤ maxLen ∧ n ≤ L.length ∧ Hid (ClsAt wr A l) ∧ Hid (rowB l = rowB L) ∧ Hid (Below w.heap.size w wr)) (fun v _ => lnOf v)
  case atStart =>
    obtain ⟨A, n, cap, e, h1, h2, h3, h4⟩ := H.out
    exact ⟨A, n, cap, L, e, hide h1, h2, h3, by omega, hide h4, hide rfl, hide (Below.refl _ _)⟩
  case round =>
    obtain ⟨A, n, cap, l, rfl, HN, hn, hcap, hnL, HC, HR, HB⟩ := hrel
    cases l with
    | nil =>
      obtain rfl : n = 0 := HN.out
      go_wp2
      go_ret
      exact ⟨by rw [← HR.out]; rfl, HB.out⟩
    | cons c t =>
      obtain ⟨b, o, rfl, hlt, c0, c1, c2, c3, c4, c5⟩ := HC.out.at (j := 0) (c := c) rfl
      rw [Nat.zero_mul, Nat.add_zero] at c0 c1 c2 c3 c4 c5
      have hn1 : 1 ≤ n := by have := HN.out; simp only [List.length_cons] at this; omega
      obtain ⟨r, wd, fg, bo, un, iv⟩ := c
      dsimp only at c0 c1 c2 c3 c4 c5
      have HA := hide (show Below wr.heap.size wr (wr.alloc (.cells #[.int .i32 r, .int .i64 wd, .int .i64 fg, .bool bo, .bool un, .bool iv] 52)) from (Below.refl _ _).alloc (Nat.le_refl _) _)
      have HK := hide (Blk.new wr 52 [.int .i32 r, .int .i64 wd, .int .i64 fg, .bool bo, .bool un, .bool iv])
      have HO := hide (fun W hW => wof_any r W hW)
      have HS := hide (fun W => style_any ⟨r, wd, fg, bo, un, iv⟩ W)
      have HX1 := hide (fun h => @row_one ⟨r, wd, fg, bo, un, iv⟩ t h)
      have HXB := hide (fun h h2 => @row_bad ⟨r, wd, fg, bo, un, iv⟩ t h h2)
      have HXL := hide (fun h => @row_last ⟨r, wd, fg, bo, un, iv⟩ h)
      have HXT := hide (fun d t h => @row_two ⟨r, wd, fg, bo, un, iv⟩ d t h)
      obtain ⟨cr, hcr⟩ : ∃ x, cells r = x := ⟨_, rfl⟩
      obtain ⟨sc, hsc⟩ : ∃ x, styC ⟨r, wd, fg, bo, un, iv⟩ = x := ⟨_, rfl⟩
      have HCR := hide hcr
      have HSC := hide hsc
      clear hcr hsc
      have HT1 := hide (HT.out.below (HB.out.trans (HA.out.mono HB.out.size)))
      have HBA := hide (HB.out.trans (HA.out.mono HB.out.size))
      have HCL := hide (fun W (hb : Below wr.heap.size wr W) k => sl_front (k := k) HC.out HN.out hn hb)
      by_cases h1 : wd = 1
      · subst h1
        have HX := hide (HX1.out rfl)
        clear HX1 HXB HXL HXT
        by_cases hw : cr = 1
        · subst hw
          cases sc with
          | true =>
            go_wp2_with (first
              | (go_at_call 28; refine (HO.out _ HT1.out).mono ?_; rintro e w1 ⟨rfl, hb1⟩; rw [HCR.out]; have d2 := (HK.out.below hb1).cell (i := 2) rfl; have d3 := (HK.out.below hb1).cell (i := 3) rfl; have d4 := (HK.out.below hb1).cell (i := 4) rfl; have d5 := (HK.out.below hb1).cell (i := 5) rfl; have HB1 := hide hb1)
              | (go_at_call 34; refine (HS.out _).mono ?_; rintro e w2 ⟨rfl, hb2⟩; rw [HSC.out]; have HB2 := hide hb2)
              | fail)
            have HBB := hide (HA.out.trans ((HB1.out.trans (HB2.out.mono HB1.out.size)).mono (by simp)))
            go_region
            all_goals go_wp2
            go_roundw
            case rel => exact ⟨_, _, _, t, rfl, hide (by have := HN.out; simp only [List.length_cons] at this; omega), by omega, by omega, by omega, hide (HCL.out _ HBB.out 1), hide (by rw [← HR.out, HX.out, HCR.out, HSC.out]; simp), hide (below_drewG (HB.out.trans (HBB.out.mono HB.out.size)) _)⟩
            case measure => simp [lnOf]; omega
          | false =>
            go_wp2_with (first
              | (go_at_call 28; refine (HO.out _ HT1.out).mono ?_; rintro e w1 ⟨rfl, hb1⟩; rw [HCR.out]; have d2 := (HK.out.below hb1).cell (i := 2) rfl; have d3 := (HK.out.below hb1).cell (i := 3) rfl; have d4 := (HK.out.below hb1).cell (i := 4) rfl; have d5 := (HK.out.below hb1).cell (i := 5) rfl; have HB1 := hide hb1)
              | (go_at_call 34; refine (HS.out _).mono ?_; rintro e w2 ⟨rfl, hb2⟩; rw [HSC.out]; have HB2 := hide hb2)
              | fail)
            have HBB := hide (HA.out.trans ((HB1.out.trans (HB2.out.mono HB1.out.size)).mono (by simp)))
            go_ret
            exact ⟨ret_bG (by rw [← HR.out, HX.out, HSC.out]; simp), HB.out.trans (HBB.out.mono HB.out.size)⟩
        · go_wp2_with (first
              | (go_at_call 28; refine (HO.out _ HT1.out).mono ?_; rintro e w1 ⟨rfl, hb1⟩; rw [HCR.out]; have HB1 := hide hb1)
              | fail)
          have HBB := hide (HA.out.trans (HB1.out.mono (by simp)))
          go_ret
          exact ⟨ret_bG (by rw [← HR.out, HX.out, HCR.out]; simp [hw]), HB.out.trans (HBB.out.mono HB.out.size)⟩
      by_cases h2 : wd = 2
      · subst h2
        cases t with
        | nil =>
          have HX := hide (HXL.out rfl)
          have hn1 : n = 1 := HN.out
          subst hn1
          clear HX1 HXB HXL HXT
          go_wp2
          go_ret
          exact ⟨ret_bG (by rw [← HR.out, HX.out]), HBA.out⟩
        | cons d t =>
          have HX := hide (HXT.out d t rfl)
          clear HX1 HXB HXL HXT
          have hn2 : 2 ≤ n := by have := HN.out; simp only [List.length_cons] at this; omega
          have HCA := hide (fun W (hb : Below wr.heap.size wr W) => ClsAt.at (show ClsAt W _ _ from HC.out.below hb) (j := 1) (c := d) rfl)
          by_cases hw : cr = 2
          · subst hw
            cases sc with
            | true =>
              go_wp2_with (first
                | (go_at_call 28; refine (HO.out _ HT1.out).mono ?_; rintro e w1 ⟨rfl, hb1⟩; rw [HCR.out]; have d2 := (HK.out.below hb1).cell (i := 2) rfl; have d3 := (HK.out.below hb1).cell (i := 3) rfl; have d4 := (HK.out.below hb1).cell (i := 4) rfl; have d5 := (HK.out.below hb1).cell (i := 5) rfl; have HK1 := hide (HK.out.below hb1); have HB1 := hide hb1)
                | (go_at_call 34; refine (HS.out _).mono ?_; rintro e w2 ⟨rfl, hb2⟩; rw [HSC.out]; have HK2 := hide (HK1.out.below hb2); have HB2 := hide hb2)
                | fail)
              have HBB := hide (HA.out.trans ((HB1.out.trans (HB2.out.mono HB1.out.size)).mono (by simp)))
              clear d2 d3 d4 d5 hb1 hb2
              have d2 := HK2.out.cell (i := 2) rfl
              have d3 := HK2.out.cell (i := 3) rfl
              have d4 := HK2.out.cell (i := 4) rfl
              have d5 := HK2.out.cell (i := 5) rfl
              obtain ⟨b', o', e, hlt', g0, g1, g2, g3, g4, g5⟩ := HCA.out _ HBB.out
              injection e with e
              injection e with e1 e2
              subst e1 e2
              simp only [Nat.one_mul] at g0 g1 g2 g3 g4 g5
              obtain ⟨r', wd', fg', bo', un', iv'⟩ := d
              dsimp only at g0 g1 g2 g3 g4 g5
              by_cases hd : (⟨r', wd', fg', bo', un', iv'⟩ : Cl) = ⟨0, 0, fg, bo, un, iv⟩
              · have HD := hide hd
                have hsame : sameC ⟨r', wd', fg', bo', un', iv'⟩ ⟨0, 0, fg, bo, un, iv⟩ = true := by unfold sameC; rw [HD.out]; simp
                clear hd
                go_region
                all_goals go_wp2
                go_roundw
                case rel => exact ⟨_, _, _, t, rfl, hide (by have := HN.out; simp only [List.length_cons] at this; omega), by omega, by omega, by omega, hide (HCL.out _ HBB.out 2), hide (by rw [← HR.out, HX.out, HCR.out, HSC.out, HD.out]; simp [halfC]), hide (below_drewG (HB.out.trans (HBB.out.mono HB.out.size)) _)⟩
                case measure => simp [lnOf]; omega
              · have HD := hide hd
                have hsame : sameC ⟨r', wd', fg', bo', un', iv'⟩ ⟨0, 0, fg, bo, un, iv⟩ = false := by unfold sameC; exact decide_eq_false HD.out
                clear hd
                go_region
                all_goals go_wp2
                go_ret
                exact ⟨ret_bG (by rw [← HR.out, HX.out, show decide ((⟨r', wd', fg', bo', un', iv'⟩ : Cl) = halfC ⟨r, 2, fg, bo, un, iv⟩) = false from decide_eq_false HD.out]; simp), below_drewG (HB.out.trans (HBB.out.mono HB.out.size)) _⟩
            | false =>
              go_wp2_with (first
                | (go_at_call 28; refine (HO.out _ HT1.out).mono ?_; rintro e w1 ⟨rfl, hb1⟩; rw [HCR.out]; have d2 := (HK.out.below hb1).cell (i := 2) rfl; have d3 := (HK.out.below hb1).cell (i := 3) rfl; have d4 := (HK.out.below hb1).cell (i := 4) rfl; have d5 := (HK.out.below hb1).cell (i := 5) rfl; have HB1 := hide hb1)
                | (go_at_call 34; refine (HS.out _).mono ?_; rintro e w2 ⟨rfl, hb2⟩; rw [HSC.out]; have HB2 := hide hb2)
                | fail)
              have HBB := hide (HA.out.trans ((HB1.out.trans (HB2.out.mono HB1.out.size)).mono (by simp)))
              go_ret
              exact ⟨ret_bG (by rw [← HR.out, HX.out, HSC.out]; simp), HB.out.trans (HBB.out.mono HB.out.size)⟩
          · go_wp2_with (first
                | (go_at_call 28; refine (HO.out _ HT1.out).mono ?_; rintro e w1 ⟨rfl, hb1⟩; rw [HCR.out]; have HB1 := hide hb1)
                | fail)
            have HBB := hide (HA.out.trans (HB1.out.mono (by simp)))
            go_ret
            exact ⟨ret_bG (by rw [← HR.out, HX.out, HCR.out]; simp [hw]), HB.out.trans (HBB.out.mono HB.out.size)⟩
      · have HX := hide (HXB.out h1 h2)
        clear HX1 HXB HXL HXT
        go_wp2_with (first
          | (go_at_call 28; refine (HO.out _ HT1.out).mono ?_; rintro e w1 ⟨rfl, hb1⟩; fail)
          | fail)
        all_goals go_ret
        all_goals exact ⟨ret_bG (by rw [← HR.out, HX.out]), HBA.out⟩
end Go.Proofs.YtojjdckpbmjjdaaDoor
