/- Contracts of slices.Equal of cells, grids.Same and limnerref06.Same. copy of slices of elements of several cells. Contracts of grids.clone and limnerref06.Copy. Contract of limnerref06.Copy. Contract of grids.wipe. -/
import Derived.Test.YtmemdhmjhckmaaaDoorZ5
import Derived.Laws.CopyOwn
namespace Go.Proofs.YtmemdhmjhckmaaaDoor
open Go.RowKit

theorem at_inj {W : World} {A : Option Addr} {L : List Cl} (h : ClsAt W A L) {j : Nat} (hj : j < L.length) : ∃ b o, A = some ⟨b, o, none⟩ := by
  obtain ⟨b, o, e, -⟩ := h.at (List.getElem?_eq_getElem hj)
  exact ⟨b, o, e⟩
theorem ClsAt.get {W : World} {b o : Nat} {L : List Cl} (h : ClsAt W (some ⟨b, o, none⟩) L) {j : Nat} {c : Cl} (hj : L[j]? = some c) :
    W.cell? ⟨b, o + j * 6, none⟩ = some (.int .i32 c.r) ∧ W.cell? ⟨b, o + j * 6 + 1, none⟩ = some (.int .i64 c.w) ∧ W.cell? ⟨b, o + j * 6 + 2, none⟩ = some (.int .i64 c.fg) ∧ W.cell? ⟨b, o + j * 6 + 3, none⟩ = some (.bool c.bo) ∧ W.cell? ⟨b, o + j * 6 + 4, none⟩ = some (.bool c.un) ∧ W.cell? ⟨b, o + j * 6 + 5, none⟩ = some (.bool c.iv) := by
  obtain ⟨b', o', e, -, h6⟩ := h.at hj
  injection e with e
  injection e with e1 e2
  subst e1 e2
  exact h6
theorem list_same {L M : List Cl} (h : L.length = M.length) (h2 : ∀ j, j < L.length → L[j]? = M[j]?) : L = M :=
  List.ext_getElem? fun j => by
    by_cases hj : j < L.length
    · exact h2 j hj
    · rw [List.getElem?_eq_none (by omega), List.getElem?_eq_none (by omega)]
def sameLB (L M : List Cl) : Bool := decide (L = M)

set_option maxRecDepth 100000 in
set_option maxHeartbeats 4000000 in
theorem equal_any (L M : List Cl) (v v' : Value) (w : World) (h : SlC w v L) (h' : SlC w v' M) :
    Calls Tryd.prog 42 #[v, v'] w fun e w' => e = .returned (.bool (sameLB L M)) ∧ Below w.heap.size w w' := by
  obtain ⟨A, n, cap, rfl, hn, hc, hm, hA⟩ := h
  obtain ⟨A', m, cap', rfl, hn', hc', hm', hA'⟩ := h'
  have HN := hide hn
  have HM := hide hn'
  have HA := hide hA
  have HA' := hide hA'
  clear hn hn' hA hA'
  have hmx := hm
  unfold maxLen at hmx
  by_cases hnm : n = m
  case neg =>
    have HV := hide (show sameLB L M = false from decide_eq_false (fun e => hnm (by rw [HN.out, HM.out, e])))
    have hz : ¬ (n : Int) = (m : Int) := by omega
    go_enter Tryd.func42, Tryd.ntmps42
    go_wp2
    go_ret
    exact ⟨ret_bG HV.out.symm, Below.refl _ _⟩
  case pos =>
    subst hnm
    go_enter Tryd.func42, Tryd.ntmps42
    go_wp2
    go_loopw [13] (fun iv wr => ∃ i : Nat, iv = .int .i64 i ∧ i ≤ n ∧ Hid (∀ j, j < i → L[j]? = M[j]?) ∧ Hid (Below w.heap.size w wr)) (fun iv _ => n - (intOf iv).toNat)
    case atStart => exact ⟨0, rfl, by omega, hide (fun j hj => by omega), hide (Below.refl _ _)⟩
    case round =>
      obtain ⟨i, rfl, hi, HE, HB⟩ := hrel
      by_cases hlt : i < n
      · obtain ⟨c, hci⟩ : ∃ c, L[i]? = some c := ⟨_, List.getElem?_eq_getElem (show i < L.length by rw [← HN.out]; exact hlt)⟩
        obtain ⟨d, hdi⟩ : ∃ d, M[i]? = some d := ⟨_, List.getElem?_eq_getElem (show i < M.length by rw [← HM.out]; exact hlt)⟩
        obtain ⟨b, o, rfl⟩ := at_inj HA.out (show i < L.length by rw [← HN.out]; exact hlt)
        obtain ⟨b', o', rfl⟩ := at_inj HA'.out (show i < M.length by rw [← HM.out]; exact hlt)
        obtain ⟨g0, g1, g2, g3, g4, g5⟩ := (show ClsAt wr _ _ from HA.out.below HB.out).get hci
        obtain ⟨e0, e1, e2, e3, e4, e5⟩ := (show ClsAt wr _ _ from HA'.out.below HB.out).get hdi
        have HCI := hide hci
        have HDI := hide hdi
        clear hci hdi
        obtain ⟨r, wd, fg, bo, un, iv⟩ := c
        obtain ⟨r', wd', fg', bo', un', iv'⟩ := d
        dsimp only at g0 g1 g2 g3 g4 g5 e0 e1 e2 e3 e4 e5
        cases hs : sameC ⟨r, wd, fg, bo, un, iv⟩ ⟨r', wd', fg', bo', un', iv'⟩ with
        | true =>
          have HS := hide (of_decide_eq_true hs)
          go_wp2
          go_region
          all_goals go_wp2
          go_roundw
          case rel => exact ⟨i + 1, by go_num, by omega, hide (fun j hj => by rcases Nat.lt_succ_iff_lt_or_eq.1 hj with h | rfl; exact HE.out j h; rw [HCI.out, HDI.out, HS.out]), hide (below_drewG HB.out _)⟩
          case measure => simp [intOf]; omega
        | false =>
          have HS := hide (of_decide_eq_false hs)
          have HV := hide (show sameLB L M = false from decide_eq_false (fun e => by
            have h1 := HCI.out
            rw [e, HDI.out] at h1
            exact HS.out (Option.some.inj h1).symm))
          go_wp2
          go_region
          all_goals go_wp2
          go_ret
          exact ⟨ret_bG HV.out.symm, below_drewG HB.out _⟩
      · obtain rfl : i = n := by omega
        have HV := hide (show sameLB L M = true from decide_eq_true (list_same (by rw [← HN.out, ← HM.out]) (by rw [← HN.out]; exact HE.out)))
        go_wp2
        go_ret
        exact ⟨ret_bG HV.out.symm, HB.out⟩
theorem equal_is (L M : List Cl) (v v' : Value) (w : World) (h : SlC w v L) (h' : SlC w v' M) (x : Bool) (hx : sameLB L M = x) :
    Calls Tryd.prog 42 #[v, v'] w fun e w' => e = .returned (.bool x) ∧ Below w.heap.size w w' := by
  subst hx; exact equal_any L M v v' w h h'

def sameF (f g : Fr) : Bool := decide (f = g)
theorem sameF_eq (f g : Fr) : sameF f g = (decide (f.rows = g.rows) && decide (f.cols = g.cols) && decide (f.row = g.row) && decide (f.col = g.col) && sameLB f.cs g.cs) := by
  obtain ⟨a, b, c, d, e⟩ := f
  obtain ⟨a', b', c', d', e'⟩ := g
  unfold sameF sameLB
  rw [Bool.eq_iff_iff]
  simp only [Fr.mk.injEq, decide_eq_true_eq, Bool.and_eq_true]
  constructor
  · rintro ⟨h1, h2, h3, h4, h5⟩; exact ⟨⟨⟨⟨h1, h2⟩, h4⟩, h5⟩, h3⟩
  · rintro ⟨⟨⟨⟨h1, h2⟩, h3⟩, h4⟩, h5⟩; exact ⟨h1, h2, h5, h3, h4⟩
theorem FrAt.sl {W : World} {f : Fr} {A : Option Addr} {n cap : Nat} (h : FrAt W (frV f A n cap) f) : SlC W (.slice A n cap) f.cs := by
  obtain ⟨A', cap', e, h1, h2, h3⟩ := h
  unfold frV at e
  simp only [Value.agg.injEq, Array.mk.injEq, List.cons.injEq, Value.slice.injEq, and_true, true_and] at e
  obtain ⟨rfl, rfl, rfl⟩ := e
  exact ⟨_, _, _, rfl, rfl, h1, h2, h3⟩

set_option maxRecDepth 100000 in
set_option maxHeartbeats 4000000 in
theorem same_any (f g : Fr) (v v' : Value) (w : World) (h : FrAt w v f) (h' : FrAt w v' g) :
    Calls Tryd.prog 21 #[v, v'] w fun e w' => e = .returned (.bool (sameF f g)) ∧ Below w.heap.size w w' := by
  have hv := h
  have hv' := h'
  obtain ⟨A, cap, rfl, -⟩ := h
  obtain ⟨A', cap', rfl, -⟩ := h'
  have hs := hv.sl
  have hs' := hv'.sl
  obtain ⟨rows, cols, cs, row, col⟩ := f
  obtain ⟨rows', cols', cs', row', col'⟩ := g
  unfold frV
  dsimp only at hs hs' ⊢
  obtain ⟨n, hn⟩ : ∃ n, cs.length = n := ⟨_, rfl⟩
  obtain ⟨m, hm⟩ : ∃ m, cs'.length = m := ⟨_, rfl⟩
  rw [hn] at hs ⊢
  rw [hm] at hs' ⊢
  obtain ⟨x, hx⟩ : ∃ x, sameLB cs cs' = x := ⟨_, rfl⟩
  have HEq := hide (sameF_eq ⟨rows, cols, cs, row, col⟩ ⟨rows', cols', cs', row', col'⟩)
  dsimp only at HEq
  rw [hx] at HEq
  have hB : Below w.heap.size w ((w.alloc (.cells (frCells rows cols (.slice A n cap) row col).toArray 35)).alloc (.cells (frCells rows' cols' (.slice A' m cap') row' col').toArray 35)) := ((Below.refl _ _).alloc (Nat.le_refl _) _).alloc (by simp) _
  have HQ := hide (equal_is cs cs' _ _ _ (hs.below hB) (hs'.below hB) x hx)
  have HB := hide hB
  clear hs hs' hv hv' hx hn hm hB
  by_cases h1 : rows = rows'
  case neg =>
    have HV := hide (show sameF ⟨rows, cols, cs, row, col⟩ ⟨rows', cols', cs', row', col'⟩ = false by rw [HEq.out, decide_eq_false h1]; rfl)
    go_enter Tryd.func21, Tryd.ntmps21
    go_wp2
    go_ret
    exact ⟨ret_bG HV.out.symm, HB.out⟩
  by_cases h2 : cols = cols'
  case neg =>
    have HV := hide (show sameF ⟨rows, cols, cs, row, col⟩ ⟨rows', cols', cs', row', col'⟩ = false by rw [HEq.out, decide_eq_false h2]; simp)
    subst h1
    go_enter Tryd.func21, Tryd.ntmps21
    go_wp2
    go_ret
    exact ⟨ret_bG HV.out.symm, HB.out⟩
  by_cases h3 : row = row'
  case neg =>
    have HV := hide (show sameF ⟨rows, cols, cs, row, col⟩ ⟨rows', cols', cs', row', col'⟩ = false by rw [HEq.out, decide_eq_false h3]; simp)
    subst h1 h2
    go_enter Tryd.func21, Tryd.ntmps21
    go_wp2
    go_ret
    exact ⟨ret_bG HV.out.symm, HB.out⟩
  by_cases h4 : col = col'
  case neg =>
    have HV := hide (show sameF ⟨rows, cols, cs, row, col⟩ ⟨rows', cols', cs', row', col'⟩ = false by rw [HEq.out, decide_eq_false h4]; simp)
    subst h1 h2 h3
    go_enter Tryd.func21, Tryd.ntmps21
    go_wp2
    go_ret
    exact ⟨ret_bG HV.out.symm, HB.out⟩
  have HV := hide (show sameF ⟨rows, cols, cs, row, col⟩ ⟨rows', cols', cs', row', col'⟩ = x by rw [HEq.out, decide_eq_true h1, decide_eq_true h2, decide_eq_true h3, decide_eq_true h4]; rfl)
  subst h1 h2 h3 h4
  go_enter Tryd.func21, Tryd.ntmps21
  go_wp2_with (first | (go_at_call 42; refine HQ.out.mono ?_; rintro e w1 ⟨rfl, hb1⟩) | fail)
  go_ret
  exact ⟨ret_bG HV.out.symm, HB.out.trans (hb1.mono HB.out.size)⟩

set_option maxRecDepth 100000 in
set_option maxHeartbeats 4000000 in
theorem rsame_any (f g : Fr) (v v' : Value) (w : World) (h : FrAt w v f) (h' : FrAt w v' g) :
    Calls Tryd.prog 13 #[v, v'] w fun e w' => e = .returned (.bool (sameF f g)) ∧ Below w.heap.size w w' := by
  obtain ⟨A, cap, rfl, hc, hcap, hcl⟩ := h
  obtain ⟨A', cap', rfl, hc', hcap', hcl'⟩ := h'
  obtain ⟨rows, cols, cs, row, col⟩ := f
  obtain ⟨rows', cols', cs', row', col'⟩ := g
  unfold frV
  dsimp only at hc hcl hc' hcl' ⊢
  obtain ⟨n, hn⟩ : ∃ n, cs.length = n := ⟨_, rfl⟩
  obtain ⟨m, hm⟩ : ∃ m, cs'.length = m := ⟨_, rfl⟩
  rw [hn] at hc ⊢
  rw [hm] at hc' ⊢
  have HEq := hide (sameF_eq ⟨rows, cols, cs, row, col⟩ ⟨rows', cols', cs', row', col'⟩)
  dsimp only at HEq
  have hB : Below w.heap.size w ((w.alloc (.cells (frCells rows cols (.slice A n cap) row col).toArray 35)).alloc (.cells (frCells rows' cols' (.slice A' m cap') row' col').toArray 35)) := ((Below.refl _ _).alloc (Nat.le_refl _) _).alloc (by simp) _
  have HB := hide hB
  have HN := hide hn
  have HM := hide hm
  have HCL := hide hcl
  have HCL' := hide hcl'
  have hmx := hcap
  unfold maxLen at hmx
  have HK1 := hide ((Blk.new w 35 (frCells rows cols (.slice A n cap) row col)).alloc (.cells (frCells rows' cols' (.slice A' m cap') row' col').toArray 35))
  have HK2 := hide (Blk.new (w.alloc (.cells (frCells rows cols (.slice A n cap) row col).toArray 35)) 35 (frCells rows' cols' (.slice A' m cap') row' col'))
  rw [World.size_alloc] at HK2
  clear hcl hcl' hn hm hB
  by_cases h1 : rows = rows'
  case neg =>
    have HV := hide (show sameF ⟨rows, cols, cs, row, col⟩ ⟨rows', cols', cs', row', col'⟩ = false by rw [HEq.out, decide_eq_false h1]; rfl)
    go_enter Tryd.func13, Tryd.ntmps13
    go_wp2
    go_ret
    exact ⟨ret_bG HV.out.symm, HB.out⟩
  by_cases h2 : cols = cols'
  case neg =>
    have HV := hide (show sameF ⟨rows, cols, cs, row, col⟩ ⟨rows', cols', cs', row', col'⟩ = false by rw [HEq.out, decide_eq_false h2]; simp)
    subst h1
    go_enter Tryd.func13, Tryd.ntmps13
    go_wp2
    go_ret
    exact ⟨ret_bG HV.out.symm, HB.out⟩
  by_cases h3 : row = row'
  case neg =>
    have HV := hide (show sameF ⟨rows, cols, cs, row, col⟩ ⟨rows', cols', cs', row', col'⟩ = false by rw [HEq.out, decide_eq_false h3]; simp)
    subst h1 h2
    go_enter Tryd.func13, Tryd.ntmps13
    go_wp2
    go_ret
    exact ⟨ret_bG HV.out.symm, HB.out⟩
  by_cases h4 : col = col'
  case neg =>
    have HV := hide (show sameF ⟨rows, cols, cs, row, col⟩ ⟨rows', cols', cs', row', col'⟩ = false by rw [HEq.out, decide_eq_false h4]; simp)
    subst h1 h2 h3
    go_enter Tryd.func13, Tryd.ntmps13
    go_wp2
    go_ret
    exact ⟨ret_bG HV.out.symm, HB.out⟩
  have HEL := hide (show sameF ⟨rows, cols, cs, row, col⟩ ⟨rows', cols', cs', row', col'⟩ = sameLB cs cs' by rw [HEq.out, decide_eq_true h1, decide_eq_true h2, decide_eq_true h3, decide_eq_true h4]; rfl)
  subst h1 h2 h3 h4
  by_cases hnm : n = m
  case neg =>
    have HV := hide (show sameLB cs cs' = false from decide_eq_false (fun e => hnm (by rw [← HN.out, ← HM.out, e])))
    have hz : ¬ (n : Int) = (m : Int) := by omega
    go_enter Tryd.func13, Tryd.ntmps13
    go_wp2
    go_ret
    exact ⟨ret_bG (by rw [HEL.out, HV.out]), HB.out⟩
  subst hnm
  go_enter Tryd.func13, Tryd.ntmps13
  go_wp2
  go_loopw [5] (fun iv wr => ∃ i : Nat, iv = .int .i64 i ∧ i ≤ n ∧ Hid (∀ j, j < i → cs[j]? = cs'[j]?) ∧ Hid (Blk wr w.heap.size 35 (frCells rows cols (.slice A n cap) row col)) ∧ Hid (Blk wr (w.heap.size + 1) 35 (frCells rows cols (.slice A' n cap') row col)) ∧ Hid (Below w.heap.size w wr)) (fun iv _ => n - (intOf iv).toNat)
  case atStart => exact ⟨0, rfl, by omega, hide (fun j hj => by omega), HK1, HK2, HB⟩
  case round =>
    clear HK1 HK2 HB
    obtain ⟨i, rfl, hi, HE, HK1, HK2, HB⟩ := hrel
    have f2 := HK1.out.cell (i := 2) rfl
    have k2 := HK2.out.cell (i := 2) rfl
    by_cases hlt : i < n
    · obtain ⟨c, hci⟩ : ∃ c, cs[i]? = some c := ⟨_, List.getElem?_eq_getElem (show i < cs.length by rw [HN.out]; exact hlt)⟩
      obtain ⟨d, hdi⟩ : ∃ d, cs'[i]? = some d := ⟨_, List.getElem?_eq_getElem (show i < cs'.length by rw [HM.out]; exact hlt)⟩
      obtain ⟨b, o, rfl⟩ := at_inj HCL.out (show i < cs.length by rw [HN.out]; exact hlt)
      obtain ⟨b', o', rfl⟩ := at_inj HCL'.out (show i < cs'.length by rw [HM.out]; exact hlt)
      obtain ⟨g0, g1, g2, g3, g4, g5⟩ := (show ClsAt wr _ _ from HCL.out.below HB.out).get hci
      obtain ⟨e0, e1, e2, e3, e4, e5⟩ := (show ClsAt wr _ _ from HCL'.out.below HB.out).get hdi
      have HCI := hide hci
      have HDI := hide hdi
      clear hci hdi
      obtain ⟨r, wd, fg, bo, un, iv⟩ := c
      obtain ⟨r', wd', fg', bo', un', iv'⟩ := d
      dsimp only at g0 g1 g2 g3 g4 g5 e0 e1 e2 e3 e4 e5
      cases hs : sameC ⟨r, wd, fg, bo, un, iv⟩ ⟨r', wd', fg', bo', un', iv'⟩ with
      | true =>
        have HS := hide (of_decide_eq_true hs)
        go_wp2
        go_region
        all_goals go_wp2
        go_roundw
        case rel => exact ⟨i + 1, by go_num, by omega, hide (fun j hj => by rcases Nat.lt_succ_iff_lt_or_eq.1 hj with h | rfl; exact HE.out j h; rw [HCI.out, HDI.out, HS.out]), HK1, HK2, hide (below_drewG HB.out _)⟩
        case measure => simp [intOf]; omega
      | false =>
        have HS := hide (of_decide_eq_false hs)
        have HV := hide (show sameLB cs cs' = false from decide_eq_false (fun e => by
          have h1 := HCI.out
          rw [e, HDI.out] at h1
          exact HS.out (Option.some.inj h1).symm))
        go_wp2
        go_region
        all_goals go_wp2
        go_ret
        exact ⟨ret_bG (by rw [HEL.out, HV.out]), below_drewG HB.out _⟩
    · obtain rfl : i = n := by omega
      have HV := hide (show sameLB cs cs' = true from decide_eq_true (list_same (by rw [HN.out, HM.out]) (by rw [HN.out]; exact HE.out)))
      go_wp2
      go_ret
      exact ⟨ret_bG (by rw [HEL.out, HV.out]), HB.out⟩
end Go.Proofs.YtmemdhmjhckmaaaDoor
namespace Go.Proofs.YtmemdhmjhckmaaaDoor
open Go.RowKit

theorem run_copy_rowN {P : Program} (w : World) (dT sT ty elem : TypeId) (size g o dLen dCap : Nat) (a : Addr) (sLen sCap : Nat) (cur : Array Value) (t : TypeId) (cs : List Value)
    (hu : P.underlying dT = some (.slice elem)) (hs : (P.info? elem).map (·.size) = some size)
    (hg : w.heap[g]? = some (.cells cur t (0, 0))) (hn : cs.length = Nat.min sLen dLen * size)
    (hsrc : ∀ j v, cs[j]? = some v → w.cell? (a.add j) = some v) (hfit : o + cs.length ≤ cur.size) (h1 : ∀ v ∈ cs, v.oneCell' = true) :
    (Builtin.copy_ #[dT, sT] ty #[.slice (some ⟨g, o, none⟩) dLen dCap, .slice (some a) sLen sCap]).run P w =
      .ok (goInt (Nat.min sLen dLen)) (w.setRow g (cur.toList.take o ++ cs ++ cur.toList.drop (o + cs.length)).toArray) := by
  have hl := run_loadCells_list (P := P) w a cs hsrc
  have hst := run_storeCells_at P g o t cs 0 cur w hg (by simpa using hfit) h1
  cases hq : P.info? elem with
  | none => simp [hq] at hs
  | some i =>
    have hi : i.size = size := by simpa [hq] using hs
    simp [Builtin.copy_, run_underlying hu, Builtin.lenOf, Builtin.firstCells, sizeOf, typeInfo, hq, hi, ← hn, hl, hst]
theorem wpList_copy_N {P : Program} {w : World} {ops : Array Oper} {rest : List Oper} {o : Oper} {a : Act} {Q : Exit → Act → World → Prop} (hgd : o.guard = none) (d s : Operand) (dT sT : TypeId)
    (ho : o.op = .call { callee := .builtin .copy, args := #[d, s], argTypes := #[dT, sT] }) (elem : TypeId) (size : Nat) (hu : P.underlying dT = some (.slice elem)) (hsz : (P.info? elem).map (·.size) = some size)
    (g off dLen dCap : Nat) (ad : Addr) (sLen sCap : Nat) (hd : a.eval d = .slice (some ⟨g, off, none⟩) dLen dCap) (hs : a.eval s = .slice (some ad) sLen sCap)
    (cur : List Value) (t : TypeId) (hg : w.heap[g]? = some (.cells cur.toArray t (0, 0))) (cs : List Value) (hn : cs.length = Nat.min sLen dLen * size)
    (hsrc : ∀ j v, cs[j]? = some v → w.cell? (ad.add j) = some v) (hfit : off + cs.length ≤ cur.length) (h1 : ∀ v ∈ cs, v.oneCell' = true) (B : Nat) (w0 : World) (hb : Below B w0 w) (hBg : B ≤ g)
    (h : ∀ w', Hid (w'.heap[g]? = some (.cells (splice cur off cs).toArray t (0, 0))) → Below B w0 w' → wpList P ops Q rest (a.put o.dst (goInt (Nat.min sLen dLen))) w') : wpList P ops Q (o :: rest) a w := by
  refine wpList_plain hgd fun K hK => ?_
  have hrun := run_copy_rowN (P := P) w dT sT o.type elem size g off dLen dCap ad sLen sCap cur.toArray t cs hu hsz hg hn hsrc (by simpa using hfit) h1
  unfold Oper.wp
  simp only [execOp, ho, resolve, invoke, builtin]
  simp [hd, hs, hrun, Result.andThen]
  exact hK _ _ (h _ (show _ = _ by simpa [splice] using setRow_heap w g _ _ t _ hg) (below_setRow hb hBg _))

/-- A frame whose slice the call made. -/
def FrOwn (W : World) (B : Nat) (v : Value) (f : Fr) : Prop := ∃ A cap, v = frV f A f.cs.length cap ∧ cap ≤ maxLen ∧ OwnC W B (.slice A f.cs.length cap) f.cs
theorem FrOwn.at {W : World} {B : Nat} {v : Value} {f : Fr} (h : FrOwn W B v f) : FrAt W v f := by
  obtain ⟨A, cap, e, h1, h2⟩ := h
  obtain ⟨A', c, e', h3⟩ := h2.form
  injection e' with _ _ e3
  subst e3
  exact ⟨A, cap, e, h3, h1, h2.cls⟩
theorem FrOwn.below {w W : World} {B : Nat} {v : Value} {f : Fr} (h : FrOwn w B v f) (hb : Below w.heap.size w W) : FrOwn W B v f := by
  obtain ⟨A, cap, e, h1, h2⟩ := h
  exact ⟨A, cap, e, h1, h2.below hb⟩
theorem flatC_one (L : List Cl) : ∀ v ∈ flatC L, v.oneCell' = true := by
  intro v hv
  unfold flatC at hv
  rw [List.mem_flatMap] at hv
  obtain ⟨c, -, hc⟩ := hv
  simp only [clCells, List.mem_cons, List.not_mem_nil, or_false] at hc
  rcases hc with rfl | rfl | rfl | rfl | rfl | rfl <;> rfl
/-- What a slice of cells reads, cell by cell. -/
theorem ClsAt.flat {W : World} {b o : Nat} {L : List Cl} (h : ClsAt W (some ⟨b, o, none⟩) L) (j : Nat) (v : Value) (hj : (flatC L)[j]? = some v) : W.cell? ((⟨b, o, none⟩ : Addr).add j) = some v := by
  have hlt := (List.getElem?_eq_some_iff.1 hj).1
  rw [flatC_len] at hlt
  obtain ⟨c, hc⟩ : ∃ c, L[j / 6]? = some c := ⟨_, List.getElem?_eq_getElem (by omega)⟩
  have h6 := flatC_at L (j / 6) c hc (j % 6) (Nat.mod_lt _ (by omega))
  rw [show j / 6 * 6 + j % 6 = j by omega, hj] at h6
  obtain ⟨b', o', e, -, hcc⟩ := h _ c hc
  injection e with e
  injection e with e1 e2
  subst e1 e2
  have := hcc (j % 6) v h6.symm
  rw [show o + j / 6 * 6 + j % 6 = o + j by omega] at this
  rw [← this]
  congr 1
  unfold Addr.add; split <;> simp_all
theorem infoC : (Tryd.prog.info? 82).map (fun i => (i.zero, i.size, i.bytes)) = some (some (.agg #[.int .i32 0, .int .i64 0, .int .i64 0, .bool false, .bool false, .bool false]), 6, 32) := by kernel_rfl
theorem infoC2 : (Tryd.prog.info? 82).map (·.size) = some 6 := by kernel_rfl
theorem splice_all (cur cs : List Value) (h : cs.length = cur.length) : splice cur 0 cs = cs := by unfold splice; rw [List.take_zero, List.nil_append, Nat.zero_add, h, List.drop_length, List.append_nil]
theorem own_new {W : World} {B g n : Nat} {L : List Cl} (hg : B ≤ g) (hh : W.heap[g]? = some (.cells (flatC L).toArray 82 (0, 0))) (hn : L.length = n) (hm : n ≤ maxLen) : OwnC W B (.slice (some ⟨g, 0, none⟩) n n) L := by
  subst hn
  exact ⟨by rw [flatC_len], .inr ⟨g, L.length, (flatC L).toArray, rfl, hg, hh, Nat.le_refl _, hm, by simp [flatC_len], by rw [List.take_of_length_le (by simp [flatC_len])]⟩⟩

theorem own_row {W : World} {B g n : Nat} {e : TypeId} {xs : List Value} (h : W.ownsRow B e 6 (.slice (some ⟨g, 0, none⟩) n n) n xs) (hn : 0 < n) : ∃ cur : List Value, cur.length = n * 6 ∧ W.heap[g]? = some (.cells cur.toArray e (0, 0)) := by
  rcases h.2 with ⟨e1, h0⟩ | ⟨g', cap', cur, e1, hg, hh, hcc, hmx, hsz, htk⟩
  · cases e1
  · injection e1 with e1 e2 e3
    injection e1 with e1
    injection e1 with e1
    subst e1 e3
    exact ⟨cur.toList, by rw [Array.length_toList, hsz], by rw [hh, Array.toArray_toList]⟩
theorem copy_new {W : World} {g n b o cap : Nat} {L : List Cl} {cur : List Value} (hn : L.length = n) (hc : cur.length = n * 6) (hg : W.heap[g]? = some (.cells cur.toArray 82 (0, 0))) (h : ClsAt W (some ⟨b, o, none⟩) L) (ty : TypeId) :
    ∃ w2, (Builtin.copy_ #[33, 33] ty #[.slice (some ⟨g, 0, none⟩) n n, .slice (some ⟨b, o, none⟩) n cap]).run Tryd.prog W = .ok (goInt n) w2 ∧ w2.heap[g]? = some (.cells (flatC L).toArray 82 (0, 0)) ∧ Below g W w2 := by
  have hm : Nat.min n n = n := Nat.min_self n
  have hr := run_copy_rowN (P := Tryd.prog) W 33 33 ty 82 6 g 0 n n ⟨b, o, none⟩ n cap cur.toArray _ (flatC L) Tryd.underlying33 infoC2 hg (by rw [flatC_len, hn, hm]) h.flat (by simp [flatC_len, hn, hc]) (flatC_one L)
  rw [hm] at hr
  refine ⟨_, hr, ?_, below_setRow (Below.refl _ _) (Nat.le_refl _) _⟩
  have h9 := setRow_heap W g cur.toArray (([] : List Value) ++ flatC L ++ []).toArray _ (0, 0) hg
  simpa [flatC_len, hn, hc, List.drop_eq_nil_of_le] using h9
end Go.Proofs.YtmemdhmjhckmaaaDoor
namespace Go.Proofs.YtmemdhmjhckmaaaDoor
open Go.RowKit

theorem ownC_of {W : World} {B n : Nat} {v : Value} {L : List Cl} (hn : L.length = n) (h : W.ownsRow B 82 6 v (0 + n) ([] ++ flatC L)) : OwnC W B v L := by
  subst hn
  rw [Nat.zero_add, List.nil_append] at h
  exact h
theorem OwnC.form2 {W : World} {B : Nat} {v : Value} {L : List Cl} (h : OwnC W B v L) : ∃ A c, v = .slice A L.length c ∧ L.length ≤ c ∧ c ≤ maxLen := by
  rcases h.2 with ⟨rfl, h0⟩ | ⟨g, cap, cur, rfl, hg, hh, q, qm, _⟩
  · exact ⟨_, _, by rw [h0], by omega, by unfold maxLen; omega⟩
  · exact ⟨_, _, rfl, q, qm⟩
theorem OwnC.mono {W : World} {B C : Nat} {v : Value} {L : List Cl} (h : OwnC W B v L) (hc : C ≤ B) : OwnC W C v L := by
  refine ⟨h.1, ?_⟩
  rcases h.2 with h0 | ⟨g, cap, cur, rfl, hg, r⟩
  · exact .inl h0
  · exact .inr ⟨g, cap, cur, rfl, by omega, r⟩
theorem OwnC.low {W : World} {B : Nat} {v : Value} {L : List Cl} (h : OwnC W B v L) {p : Addr} (hp : p.block < B) (x : Value) : OwnC (W.setCell p x) B v L := by
  refine ⟨h.1, ?_⟩
  rcases h.2 with h0 | ⟨g, cap, cur, rfl, hg, hh, r⟩
  · exact .inl h0
  · exact .inr ⟨g, cap, cur, rfl, hg, (Below.heap_setCell _ _ _ _ (by omega)).trans hh, r⟩
set_option maxRecDepth 100000 in
set_option maxHeartbeats 1000000 in
theorem rcopy_any (f : Fr) (v : Value) (w : World) (h : FrAt w v f) (h0 : 0 < f.cs.length) (h9 : f.cs.length ≤ 20000) :
    Calls Tryd.prog 87 #[v] w fun e w' => ∃ v', e = .returned v' ∧ FrOwn w' w.heap.size v' f ∧ Below w.heap.size w w' := by
  obtain ⟨A, cap, rfl, hc, hcap, hcl⟩ := h
  obtain ⟨rows, cols, cs, row, col⟩ := f
  unfold frV
  dsimp only at hc hcl h0 h9 ⊢
  obtain ⟨b, o, rfl⟩ := at_inj hcl h0
  obtain ⟨n, hn⟩ : ∃ n, cs.length = n := ⟨_, rfl⟩
  rw [hn] at hc h0 h9 ⊢
  have HN := hide hn
  have HCL := hide hcl
  clear hn hcl
  obtain ⟨i0, hi, hz0, hz1, hz2⟩ := info_parts infoC
  have HK := hide ((Blk.new w 35 (frCells rows cols (.slice (some ⟨b, o, none⟩) n cap) row col)).alloc (.cells (frCells 0 0 (.slice none 0 0) 0 0).toArray 35))
  have HZ := hide (Blk.new (w.alloc (.cells (frCells rows cols (.slice (some ⟨b, o, none⟩) n cap) row col).toArray 35)) 35 (frCells 0 0 (.slice none 0 0) 0 0))
  rw [World.size_alloc] at HZ
  have HB := hide (show Below w.heap.size w ((w.alloc (.cells (frCells rows cols (.slice (some ⟨b, o, none⟩) n cap) row col).toArray 35)).alloc (.cells (frCells 0 0 (.slice none 0 0) 0 0).toArray 35)) from ((Below.refl _ _).alloc (Nat.le_refl _) _).alloc (by simp) _)
  go_enter Tryd.func87, Tryd.ntmps87
  go_wp2_with (first
    | (at_builtin; refine wpList_append_own _ rfl _ _ 33 rfl (w.heap.size + 1 + 1) 82 i0 _ 6 32 Tryd.underlying33 hi hz0 hz1 hz2 (by rfl) (by decide) (.slice none 0 0) 0 [] rfl ⟨rfl, .inl ⟨rfl, rfl⟩⟩ ⟨b, o, none⟩ n cap (flatC cs) rfl (by rw [flatC_len, HN.out]) ((show ClsAt _ _ _ from HCL.out.below HB.out).flat) (flatC_one cs) (by unfold maxLen; omega) (by omega) (by simp) ?_; intro v' w2 hown1 hgr _; have hown := ownC_of HN.out hown1; obtain ⟨A2, c2, hv2, hc2, hcm2⟩ := hown.form2; rw [HN.out] at hv2 hc2; subst hv2; have HOWN := hide hown; have HB2 := hide (HB.out.grown hgr (by simp; omega) (fun k e => by cases e)); have hK2 : Blk w2 w.heap.size 35 (frCells rows cols (.slice (some ⟨b, o, none⟩) n cap) row col) := (hgr.block _ HK.out.lt (by simp [Value.ownBlock])).trans HK.out; have hZ2 : Blk w2 (w.heap.size + 1) 35 (frCells 0 0 (.slice none 0 0) 0 0) := (hgr.block _ HZ.out.lt (by simp [Value.ownBlock])).trans HZ.out; have HK2 := hide hK2; have HZ2 := hide hZ2; have k0 := hK2.cell (i := 0) rfl; have k1 := hK2.cell (i := 1) rfl; have k2 := hK2.cell (i := 2) rfl; have k3 := hK2.cell (i := 3) rfl; have k4 := hK2.cell (i := 4) rfl; have kf := hK2.frozen 2; have z0 := hZ2.cell (i := 0) rfl; have z1 := hZ2.cell (i := 1) rfl; have z2 := hZ2.cell (i := 2) rfl; have z3 := hZ2.cell (i := 3) rfl; have z4 := hZ2.cell (i := 4) rfl; have zf := fun i => hZ2.frozen i; clear hown hown1 hgr hK2 hZ2)
    | fail)
  have hZf := (((((HZ2.out.far (p := ⟨w.heap.size, 2, none⟩) (by simp) (.slice A2 n c2)).set 0 (.int .i64 rows)).set 1 (.int .i64 cols)).set 2 (.slice A2 n c2)).set 3 (.int .i64 row)).set 4 (.int .i64 col)
  have hHf := ((((((HOWN.out.low (p := ⟨w.heap.size, 2, none⟩) (by simp; omega) (.slice A2 n c2)).low (p := ⟨w.heap.size + 1, 0, none⟩) (by simp) (.int .i64 rows)).low (p := ⟨w.heap.size + 1, 1, none⟩) (by simp) (.int .i64 cols)).low (p := ⟨w.heap.size + 1, 2, none⟩) (by simp) (.slice A2 n c2)).low (p := ⟨w.heap.size + 1, 3, none⟩) (by simp) (.int .i64 row)).low (p := ⟨w.heap.size + 1, 4, none⟩) (by simp) (.int .i64 col)).mono (C := w.heap.size) (by omega)
  have hBf := (((((HB2.out.setCell (p := ⟨w.heap.size, 2, none⟩) (Nat.le_refl _) (.slice A2 n c2)).setCell (p := ⟨w.heap.size + 1, 0, none⟩) (by simp) (.int .i64 rows)).setCell (p := ⟨w.heap.size + 1, 1, none⟩) (by simp) (.int .i64 cols)).setCell (p := ⟨w.heap.size + 1, 2, none⟩) (by simp) (.slice A2 n c2)).setCell (p := ⟨w.heap.size + 1, 3, none⟩) (by simp) (.int .i64 row)).setCell (p := ⟨w.heap.size + 1, 4, none⟩) (by simp) (.int .i64 col)
  refine bodyPost_ret (results_cell_row rfl _ _ (w.heap.size + 1) 35 #[.int .i64 rows, .int .i64 cols, .slice A2 n c2, .int .i64 row, .int .i64 col] (0, 0) _ rfl hZf Tryd.underlying35 rfl (by kernel_rfl)) rfl ⟨_, rfl, ⟨A2, c2, ?_, hcm2, ?_⟩, hBf⟩
  · simp [frV, HN.out]
  · simpa [HN.out] using hHf
end Go.Proofs.YtmemdhmjhckmaaaDoor
namespace Go.Proofs.YtmemdhmjhckmaaaDoor
open Go.RowKit

/-- Behind a store of a cell in the row of the call's own. -/
theorem own_set6 {W : World} {B g n c : Nat} {L : List Cl} (h : OwnC W B (.slice (some ⟨g, 0, none⟩) n c) L) (hn : L.length = n) {j : Nat} (hj : j < n) (x : Cl) :
    OwnC ((((((W.setCell ⟨g, j * 6, none⟩ (.int .i32 x.r)).setCell ⟨g, j * 6 + 1, none⟩ (.int .i64 x.w)).setCell ⟨g, j * 6 + 2, none⟩ (.int .i64 x.fg)).setCell ⟨g, j * 6 + 3, none⟩ (.bool x.bo)).setCell ⟨g, j * 6 + 4, none⟩ (.bool x.un)).setCell ⟨g, j * 6 + 5, none⟩ (.bool x.iv)) B (.slice (some ⟨g, 0, none⟩) n c) (L.set j x) := by
  subst hn; exact h.set hj x
theorem OwnC.base {W : World} {B g n c : Nat} {L : List Cl} (h : OwnC W B (.slice (some ⟨g, 0, none⟩) n c) L) : B ≤ g := by
  rcases h.2 with ⟨e, h0⟩ | ⟨g', cap, cur, e, hg, r⟩
  · cases e
  · injection e with e; injection e with e; injection e with e; subst e; exact hg
theorem OwnC.frozen {W : World} {B g n c : Nat} {L : List Cl} (h : OwnC W B (.slice (some ⟨g, 0, none⟩) n c) L) (i : Nat) : W.frozen? ⟨g, i, none⟩ = false := by
  rcases h.2 with ⟨e, h0⟩ | ⟨g', cap, cur, e, hg, hh, r⟩
  · cases e
  · injection e with e; injection e with e; injection e with e; subst e
    simp [World.frozen?, hh]
/-- Only this block has changed, and new ones: what lies elsewhere stands. -/
theorem BTab.keep {W W' : World} {g : Nat} (h : BTab W) (hg : W.grownBy W' (some g)) (hne : g ≠ 2) : BTab W' := by
  have k : ∀ {o : Nat} {u : Value}, W.cell? ⟨2, o, none⟩ = some u → W'.cell? ⟨2, o, none⟩ = some u := fun {o u} e => by
    have hlt := World.block_lt_of_cell? _ _ e
    have hb := hg.block _ hlt (fun e => hne (Option.some.inj e).symm)
    rw [← e]
    simp [World.cell?, hb]
  exact ⟨k h.1, k h.2.1, k h.2.2.1, k h.2.2.2.1, k h.2.2.2.2.1, k h.2.2.2.2.2⟩
theorem wipe_1 {L : List Cl} {i : Nat} {c : Cl} (h : L[i]? = some c) (h2 : ¬ c.w = 2) (h0 : ¬ c.w = 0) : wipeL L i = L.set i blankC := by
  unfold wipeL; rw [getD_some h, if_neg h2, if_neg h0]
theorem wipe_2 {L : List Cl} {i : Nat} {c : Cl} (h : L[i]? = some c) (h2 : c.w = 2) : wipeL L i = (L.set (i + 1) blankC).set i blankC := by
  unfold wipeL; rw [getD_some h, if_pos h2]
theorem wipe_0 {L : List Cl} {i : Nat} {c : Cl} (h : L[i]? = some c) (h0 : c.w = 0) : wipeL L i = (L.set (i - 1) blankC).set i blankC := by
  unfold wipeL; rw [getD_some h, if_neg (by omega), if_pos h0]
end Go.Proofs.YtmemdhmjhckmaaaDoor
