/- Contracts of slices.Equal of cells, grids.Same and limnerref06.Same. -/
import Derived.Test.YtojjdckpbmjjdaaDoorGrvalid
namespace Go.Proofs.YtojjdckpbmjjdaaDoor
open Go.RowKit

theorem at_inj {W : World} {A : Option Addr} {L : List Cl} (h : ClsAt W A L) {j : Nat} (hj : j < L.length) : ∃ b o, A = some ⟨b, o, none⟩ := by
  obtain ⟨b, o, e, -⟩ := h.at (List.getElem?_eq_getElem hj)
  exact ⟨b, o, e⟩
theorem ClsAt.get {W : World} {b o : Nat} {L : List Cl} (h : ClsAt W (some ⟨b, o, none⟩) L) {j : Nat} {c : Cl} (hj : L[j]? = some c) :
    W.cell? ⟨b, o + j * 6, none⟩ = some (.int .i32 c.r) ∧ W.cell? ⟨b, o + j * 6 + 1, none⟩ = some (.int .i64 c.w) ∧ W.cell? ⟨b, o + j * 6 + 2, none⟩ = some (.int .i64 c.fg) ∧ W.cell? ⟨b, o + j * 6 + 3, none⟩ = some (.bool c.bo) ∧ W.cell? ⟨b, o + j * 6 + 4, none⟩ = some (.bool c.un) ∧ W.cell? ⟨b, o + j * 6 + 5, none⟩ = some (.bool c.iv) := by
  obtain ⟨b', o', e, -, h6⟩ := h.at hj
  injection e with e
  injection e with e1 e2
  subst e1 e2
  exact h6
theorem list_same {L M : List Cl} (h : L.length = M.length) (h2 : ∀ j, j < L.length → L[j]? = M[j]?) : L = M :=
  List.ext_getElem? fun j => by
    by_cases hj : j < L.length
    · exact h2 j hj
    · rw [List.getElem?_eq_none (by omega), List.getElem?_eq_none (by omega)]
def sameLB (L M : List Cl) : Bool := decide (L = M)

set_option maxRecDepth 100000 in
set_option maxHeartbeats 4000000 in
theorem equal_any (L M : List Cl) (v v' : Value) (w : World) (h : SlC w v L) (h' : SlC w v' M) :
    Calls Tryd.prog 32 #[v, v'] w fun e w' => e = .returned (.bool (sameLB L M)) ∧ Below w.heap.size w w' := by
  obtain ⟨A, n, cap, rfl, hn, hc, hm, hA⟩ := h
  obtain ⟨A', m, cap', rfl, hn', hc', hm', hA'⟩ := h'
  have HN := hide hn
  have HM := hide hn'
  have HA := hide hA
  have HA' := hide hA'
  clear hn hn' hA hA'
  have hmx := hm
  unfold maxLen at hmx
  by_cases hnm : n = m
  case neg =>
    have HV := hide (show sameLB L M = false from decide_eq_false (fun e => hnm (by rw [HN.out, HM.out, e])))
    have hz : ¬ (n : Int) = (m : Int) := by omega
    go_enter Tryd.func32, Tryd.ntmps32
    go_wp2
    go_ret
    exact ⟨ret_bG HV.out.symm, Below.refl _ _⟩
  case pos =>
    subst hnm
    go_enter Tryd.func32, Tryd.ntmps32
    go_wp2
    go_loopw [13] (fun iv wr => ∃ i : Nat, iv = .int .i64 i ∧ i ≤ n ∧ Hid (∀ j, j < i → L[j]? = M[j]?) ∧ Hid (Below w.heap.size w wr)) (fun iv _ => n - (intOf iv).toNat)
    case atStart => exact ⟨0, rfl, by omega, hide (fun j hj => by omega), hide (Below.refl _ _)⟩
    case round =>
      obtain ⟨i, rfl, hi, HE, HB⟩ := hrel
      by_cases hlt : i < n
      · obtain ⟨c, hci⟩ : ∃ c, L[i]? = some c := ⟨_, List.getElem?_eq_getElem (show i < L.length by rw [← HN.out]; exact hlt)⟩
        obtain ⟨d, hdi⟩ : ∃ d, M[i]? = some d := ⟨_, List.getElem?_eq_getElem (show i < M.length by rw [← HM.out]; exact hlt)⟩
        obtain ⟨b, o, rfl⟩ := at_inj HA.out (show i < L.length by rw [← HN.out]; exact hlt)
        obtain ⟨b', o', rfl⟩ := at_inj HA'.out (show i < M.length by rw [← HM.out]; exact hlt)
        obtain ⟨g0, g1, g2, g3, g4, g5⟩ := (show ClsAt wr _ _ from HA.out.below HB.out).get hci
        obtain ⟨e0, e1, e2, e3, e4, e5⟩ := (show ClsAt wr _ _ from HA'.out.below HB.out).get hdi
        have HCI := hide hci
        have HDI := hide hdi
        clear hci hdi
        obtain ⟨r, wd, fg, bo, un, iv⟩ := c
        obtain ⟨r', wd', fg', bo', un', iv'⟩ := d
        dsimp only at g0 g1 g2 g3 g4 g5 e0 e1 e2 e3 e4 e5
        cases hs : sameC ⟨r, wd, fg, bo, un, iv⟩ ⟨r', wd', fg', bo', un', iv'⟩ with
        | true =>
          have HS := hide (of_decide_eq_true hs)
          go_wp2
          go_region
          all_goals go_wp2
          go_roundw
          case rel => exact ⟨i + 1, by go_num, by omega, hide (fun j hj => by rcases Nat.lt_succ_iff_lt_or_eq.1 hj with h | rfl; exact HE.out j h; rw [HCI.out, HDI.out, HS.out]), hide (below_drewG HB.out _)⟩
          case measure => simp [intOf]; omega
        | false =>
          have HS := hide (of_decide_eq_false hs)
          have HV := hide (show sameLB L M = false from decide_eq_false (fun e => by
            have h1 := HCI.out
            rw [e, HDI.out] at h1
            exact HS.out (Option.some.inj h1).symm))
          go_wp2
          go_region
          all_goals go_wp2
          go_ret
          exact ⟨ret_bG HV.out.symm, below_drewG HB.out _⟩
      · obtain rfl : i = n := by omega
        have HV := hide (show sameLB L M = true from decide_eq_true (list_same (by rw [← HN.out, ← HM.out]) (by rw [← HN.out]; exact HE.out)))
        go_wp2
        go_ret
        exact ⟨ret_bG HV.out.symm, HB.out⟩
theorem equal_is (L M : List Cl) (v v' : Value) (w : World) (h : SlC w v L) (h' : SlC w v' M) (x : Bool) (hx : sameLB L M = x) :
    Calls Tryd.prog 32 #[v, v'] w fun e w' => e = .returned (.bool x) ∧ Below w.heap.size w w' := by
  subst hx; exact equal_any L M v v' w h h'

def sameF (f g : Fr) : Bool := decide (f = g)
theorem sameF_eq (f g : Fr) : sameF f g = (decide (f.rows = g.rows) && decide (f.cols = g.cols) && decide (f.row = g.row) && decide (f.col = g.col) && sameLB f.cs g.cs) := by
  obtain ⟨a, b, c, d, e⟩ := f
  obtain ⟨a', b', c', d', e'⟩ := g
  unfold sameF sameLB
  rw [Bool.eq_iff_iff]
  simp only [Fr.mk.injEq, decide_eq_true_eq, Bool.and_eq_true]
  constructor
  · rintro ⟨h1, h2, h3, h4, h5⟩; exact ⟨⟨⟨⟨h1, h2⟩, h4⟩, h5⟩, h3⟩
  · rintro ⟨⟨⟨⟨h1, h2⟩, h3⟩, h4⟩, h5⟩; exact ⟨h1, h2, h5, h3, h4⟩
theorem FrAt.sl {W : World} {f : Fr} {A : Option Addr} {n cap : Nat} (h : FrAt W (frV f A n cap) f) : SlC W (.slice A n cap) f.cs := by
  obtain ⟨A', cap', e, h1, h2, h3⟩ := h
  unfold frV at e
  simp only [Value.agg.injEq, Array.mk.injEq, List.cons.injEq, Value.slice.injEq, and_true, true_and] at e
  obtain ⟨rfl, rfl, rfl⟩ := e
  exact ⟨_, _, _, rfl, rfl, h1, h2, h3⟩

set_option maxRecDepth 100000 in
set_option maxHeartbeats 4000000 in
theorem same_any (f g : Fr) (v v' : Value) (w : World) (h : FrAt w v f) (h' : FrAt w v' g) :
    Calls Tryd.prog 13 #[v, v'] w fun e w' => e = .returned (.bool (sameF f g)) ∧ Below w.heap.size w w' := by
  have hv := h
  have hv' := h'
  obtain ⟨A, cap, rfl, -⟩ := h
  obtain ⟨A', cap', rfl, -⟩ := h'
  have hs := hv.sl
  have hs' := hv'.sl
  obtain ⟨rows, cols, cs, row, col⟩ := f
  obtain ⟨rows', cols', cs', row', col'⟩ := g
  unfold frV
  dsimp only at hs hs' ⊢
  obtain ⟨n, hn⟩ : ∃ n, cs.length = n := ⟨_, rfl⟩
  obtain ⟨m, hm⟩ : ∃ m, cs'.length = m := ⟨_, rfl⟩
  rw [hn] at hs ⊢
  rw [hm] at hs' ⊢
  obtain ⟨x, hx⟩ : ∃ x, sameLB cs cs' = x := ⟨_, rfl⟩
  have HEq := hide (sameF_eq ⟨rows, cols, cs, row, col⟩ ⟨rows', cols', cs', row', col'⟩)
  dsimp only at HEq
  rw [hx] at HEq
  have hB : Below w.heap.size w ((w.alloc (.cells (frCells rows cols (.slice A n cap) row col).toArray 28)).alloc (.cells (frCells rows' cols' (.slice A' m cap') row' col').toArray 28)) := ((Below.refl _ _).alloc (Nat.le_refl _) _).alloc (by simp) _
  have HQ := hide (equal_is cs cs' _ _ _ (hs.below hB) (hs'.below hB) x hx)
  have HB := hide hB
  clear hs hs' hv hv' hx hn hm hB
  by_cases h1 : rows = rows'
  case neg =>
    have HV := hide (show sameF ⟨rows, cols, cs, row, col⟩ ⟨rows', cols', cs', row', col'⟩ = false by rw [HEq.out, decide_eq_false h1]; rfl)
    go_enter Tryd.func13, Tryd.ntmps13
    go_wp2
    go_ret
    exact ⟨ret_bG HV.out.symm, HB.out⟩
  by_cases h2 : cols = cols'
  case neg =>
    have HV := hide (show sameF ⟨rows, cols, cs, row, col⟩ ⟨rows', cols', cs', row', col'⟩ = false by rw [HEq.out, decide_eq_false h2]; simp)
    subst h1
    go_enter Tryd.func13, Tryd.ntmps13
    go_wp2
    go_ret
    exact ⟨ret_bG HV.out.symm, HB.out⟩
  by_cases h3 : row = row'
  case neg =>
    have HV := hide (show sameF ⟨rows, cols, cs, row, col⟩ ⟨rows', cols', cs', row', col'⟩ = false by rw [HEq.out, decide_eq_false h3]; simp)
    subst h1 h2
    go_enter Tryd.func13, Tryd.ntmps13
    go_wp2
    go_ret
    exact ⟨ret_bG HV.out.symm, HB.out⟩
  by_cases h4 : col = col'
  case neg =>
    have HV := hide (show sameF ⟨rows, cols, cs, row, col⟩ ⟨rows', cols', cs', row', col'⟩ = false by rw [HEq.out, decide_eq_false h4]; simp)
    subst h1 h2 h3
    go_enter Tryd.func13, Tryd.ntmps13
    go_wp2
    go_ret
    exact ⟨ret_bG HV.out.symm, HB.out⟩
  have HV := hide (show sameF ⟨rows, cols, cs, row, col⟩ ⟨rows', cols', cs', row', col'⟩ = x by rw [HEq.out, decide_eq_true h1, decide_eq_true h2, decide_eq_true h3, decide_eq_true h4]; rfl)
  subst h1 h2 h3 h4
  go_enter Tryd.func13, Tryd.ntmps13
  go_wp2_with (first | (go_at_call 32; refine HQ.out.mono ?_; rintro e w1 ⟨rfl, hb1⟩) | fail)
  go_ret
  exact ⟨ret_bG HV.out.symm, HB.out.trans (hb1.mono HB.out.size)⟩

set_option maxRecDepth 100000 in
set_option maxHeartbeats 4000000 in
theorem rsame_any (f g : Fr) (v v' : Value) (w : World) (h : FrAt w v f) (h' : FrAt w v' g) :
    Calls Tryd.prog 14 #[v, v'] w fun e w' => e = .returned (.bool (sameF f g)) ∧ Below w.heap.size w w' := by
  obtain ⟨A, cap, rfl, hc, hcap, hcl⟩ := h
  obtain ⟨A', cap', rfl, hc', hcap', hcl'⟩ := h'
  obtain ⟨rows, cols, cs, row, col⟩ := f
  obtain ⟨rows', cols', cs', row', col'⟩ := g
  unfold frV
  dsimp only at hc hcl hc' hcl' ⊢
  obtain ⟨n, hn⟩ : ∃ n, cs.length = n := ⟨_, rfl⟩
  obtain ⟨m, hm⟩ : ∃ m, cs'.length = m := ⟨_, rfl⟩
  rw [hn] at hc ⊢
  rw [hm] at hc' ⊢
  have HEq := hide (sameF_eq ⟨rows, cols, cs, row, col⟩ ⟨rows', cols', cs', row', col'⟩)
  dsimp only at HEq
  have hB : Below w.heap.size w ((w.alloc (.cells (frCells rows cols (.slice A n cap) row col).toArray 28)).alloc (.cells (frCells rows' cols' (.slice A' m cap') row' col').toArray 28)) := ((Below.refl _ _).alloc (Nat.le_refl _) _).alloc (by simp) _
  have HB := hide hB
  have HN := hide hn
  have HM := hide hm
  have HCL := hide hcl
  have HCL' := hide hcl'
  have hmx := hcap
  unfold maxLen at hmx
  have HK1 := hide ((Blk.new w 28 (frCells rows cols (.slice A n cap) row col)).alloc (.cells (frCells rows' cols' (.slice A' m cap') row' col').toArray 28))
  have HK2 := hide (Blk.new (w.alloc (.cells (frCells rows cols (.slice A n cap) row col).toArray 28)) 28 (frCells rows' cols' (.slice A' m cap') row' col'))
  rw [World.size_alloc] at HK2
  clear hcl hcl' hn hm hB
  by_cases h1 : rows = rows'
  case neg =>
    have HV := hide (show sameF ⟨rows, cols, cs, row, col⟩ ⟨rows', cols', cs', row', col'⟩ = false by rw [HEq.out, decide_eq_false h1]; rfl)
    go_enter Tryd.func14, Tryd.ntmps14
    go_wp2
    go_ret
    exact ⟨ret_bG HV.out.symm, HB.out⟩
  by_cases h2 : cols = cols'
  case neg =>
    have HV := hide (show sameF ⟨rows, cols, cs, row, col⟩ ⟨rows', cols', cs', row', col'⟩ = false by rw [HEq.out, decide_eq_false h2]; simp)
    subst h1
    go_enter Tryd.func14, Tryd.ntmps14
    go_wp2
    go_ret
    exact ⟨ret_bG HV.out.symm, HB.out⟩
  by_cases h3 : row = row'
  case neg =>
    have HV := hide (show sameF ⟨rows, cols, cs, row, col⟩ ⟨rows', cols', cs', row', col'⟩ = false by rw [HEq.out, decide_eq_false h3]; simp)
    subst h1 h2
    go_enter Tryd.func14, Tryd.ntmps14
    go_wp2
    go_ret
    exact ⟨ret_bG HV.out.symm, HB.out⟩
  by_cases h4 : col = col'
  case neg =>
    have HV := hide (show sameF ⟨rows, cols, cs, row, col⟩ ⟨rows', cols', cs', row', col'⟩ = false by rw [HEq.out, decide_eq_false h4]; simp)
    subst h1 h2 h3
    go_enter Tryd.func14, Tryd.ntmps14
    go_wp2
    go_ret
    exact ⟨ret_bG HV.out.symm, HB.out⟩
  have HEL := hide (show sameF ⟨rows, cols, cs, row, col⟩ ⟨rows', cols', cs', row', col'⟩ = sameLB cs cs' by rw [HEq.out, decide_eq_true h1, decide_eq_true h2, decide_eq_true h3, decide_eq_true h4]; rfl)
  subst h1 h2 h3 h4
  by_cases hnm : n = m
  case neg =>
    have HV := hide (show sameLB cs cs' = false from decide_eq_false (fun e => hnm (by rw [← HN.out, ← HM.out, e])))
    have hz : ¬ (n : Int) = (m : Int) := by omega
    go_enter Tryd.func14, Tryd.ntmps14
    go_wp2
    go_ret
    exact ⟨ret_bG (by rw [HEL.out, HV.out]), HB.out⟩
  subst hnm
  go_enter Tryd.func14, Tryd.ntmps14
  go_wp2
  go_loopw [5] (fun iv wr => ∃ i : Nat, iv = .int .i64 i ∧ i ≤ n ∧ Hid (∀ j, j < i → cs[j]? = cs'[j]?) ∧ Hid (Blk wr w.heap.size 28 (frCells rows cols (.slice A n cap) row col)) ∧ Hid (Blk wr (w.heap.size + 1) 28 (frCells rows cols (.slice A' n cap') row col)) ∧ Hid (Below w.heap.size w wr)) (fun iv _ => n - (intOf iv).toNat)
  case atStart => exact ⟨0, rfl, by omega, hide (fun j hj => by omega), HK1, HK2, HB⟩
  case round =>
    clear HK1 HK2 HB
    obtain ⟨i, rfl, hi, HE, HK1, HK2, HB⟩ := hrel
    have f2 := HK1.out.cell (i := 2) rfl
    have k2 := HK2.out.cell (i := 2) rfl
    by_cases hlt : i < n
    · obtain ⟨c, hci⟩ : ∃ c, cs[i]? = some c := ⟨_, List.getElem?_eq_getElem (show i < cs.length by rw [HN.out]; exact hlt)⟩
      obtain ⟨d, hdi⟩ : ∃ d, cs'[i]? = some d := ⟨_, List.getElem?_eq_getElem (show i < cs'.length by rw [HM.out]; exact hlt)⟩
      obtain ⟨b, o, rfl⟩ := at_inj HCL.out (show i < cs.length by rw [HN.out]; exact hlt)
      obtain ⟨b', o', rfl⟩ := at_inj HCL'.out (show i < cs'.length by rw [HM.out]; exact hlt)
      obtain ⟨g0, g1, g2, g3, g4, g5⟩ := (show ClsAt wr _ _ from HCL.out.below HB.out).get hci
      obtain ⟨e0, e1, e2, e3, e4, e5⟩ := (show ClsAt wr _ _ from HCL'.out.below HB.out).get hdi
      have HCI := hide hci
      have HDI := hide hdi
      clear hci hdi
      obtain ⟨r, wd, fg, bo, un, iv⟩ := c
      obtain ⟨r', wd', fg', bo', un', iv'⟩ := d
      dsimp only at g0 g1 g2 g3 g4 g5 e0 e1 e2 e3 e4 e5
      cases hs : sameC ⟨r, wd, fg, bo, un, iv⟩ ⟨r', wd', fg', bo', un', iv'⟩ with
      | true =>
        have HS := hide (of_decide_eq_true hs)
        go_wp2
        go_region
        all_goals go_wp2
        go_roundw
        case rel => exact ⟨i + 1, by go_num, by omega, hide (fun j hj => by rcases Nat.lt_succ_iff_lt_or_eq.1 hj with h | rfl; exact HE.out j h; rw [HCI.out, HDI.out, HS.out]), HK1, HK2, hide (below_drewG HB.out _)⟩
        case measure => simp [intOf]; omega
      | false =>
        have HS := hide (of_decide_eq_false hs)
        have HV := hide (show sameLB cs cs' = false from decide_eq_false (fun e => by
          have h1 := HCI.out
          rw [e, HDI.out] at h1
          exact HS.out (Option.some.inj h1).symm))
        go_wp2
        go_region
        all_goals go_wp2
        go_ret
        exact ⟨ret_bG (by rw [HEL.out, HV.out]), below_drewG HB.out _⟩
    · obtain rfl : i = n := by omega
      have HV := hide (show sameLB cs cs' = true from decide_eq_true (list_same (by rw [HN.out, HM.out]) (by rw [HN.out]; exact HE.out)))
      go_wp2
      go_ret
      exact ⟨ret_bG (by rw [HEL.out, HV.out]), HB.out⟩
end Go.Proofs.YtojjdckpbmjjdaaDoor
