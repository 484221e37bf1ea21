/- What the laws of Grids call of their own: Strings, Great, Frame. -/
import Derived.Test.YtojjdckpbmjjdaaDoorGpaint
import Derived.Test.YtojjdckpbmjjdaaDoorGrput
import Derived.Test.YtojjdckpbmjjdaaDoorGrresize
import Derived.Test.YtojjdckpbmjjdaaDoorGarows
namespace Go.Proofs.YtojjdckpbmjjdaaDoor
open Go.RowKit

/-- A slice that reads as strings. -/
def StrV (W : World) (v : Value) (L : List ByteArray) : Prop := ∃ A cap, v = .slice A L.length cap ∧ L.length ≤ 1000 ∧ ∀ j s, L[j]? = some s → ∃ b o, A = some ⟨b, o, none⟩ ∧ b < W.heap.size ∧ W.cell? ⟨b, o + j, none⟩ = some (.string s)
theorem StrV.below {w W : World} {v : Value} {L : List ByteArray} (h : StrV w v L) (hb : Below w.heap.size w W) : StrV W v L := by
  obtain ⟨A, cap, e, hl, h1⟩ := h
  refine ⟨A, cap, e, hl, fun j s hj => ?_⟩
  obtain ⟨b, o, e1, h2, h3⟩ := h1 j s hj
  exact ⟨b, o, e1, Nat.lt_of_lt_of_le h2 hb.size, kcG hb h3⟩
theorem OwnS.reads {W : World} {B : Nat} {v : Value} {L : List ByteArray} (h : OwnS W B v L) (hl : L.length ≤ 1000) : StrV W v L := by
  rcases h.2 with ⟨rfl, h0⟩ | ⟨g, cap, cur, rfl, hg, hh, q, qm, hsz, htk⟩
  · refine ⟨none, 0, by rw [h0], hl, fun j s hj => ?_⟩
    rw [List.length_eq_zero_iff.1 h0] at hj
    simp at hj
  · refine ⟨_, _, rfl, hl, fun j s hj => ⟨g, 0, rfl, (Array.getElem?_eq_some_iff.1 hh).1, ?_⟩⟩
    have hlt := (List.getElem?_eq_some_iff.1 hj).1
    have h1 : (cur.toList.take (L.length * 1))[j]? = some (.string s) := by
      rw [show cur.toList.take (L.length * 1) = L.map Value.string by simpa using htk, List.getElem?_map, hj]; rfl
    rw [List.getElem?_take_of_lt (by omega)] at h1
    have h2 : cur[j]? = some (.string s) := by simpa using h1
    simp [World.cell?, hh, h2]
theorem rowsF_le (f : Fr) : (rowsF f).length ≤ 1000 := by
  by_cases h : validF f = true
  · rw [rowsF_ok h, rowsTo_len]
    obtain ⟨R, C, hR, hC, h1, h2, -⟩ := valid_facts h
    omega
  · rw [rowsF_bad (by simpa using h)]; simp
theorem str_neq {s t : ByteArray} (h : ¬ s = t) : (s.toList == t.toList) = false := by
  rw [ByteArray.toList_eq, ByteArray.toList_eq]
  simp only [beq_eq_false_iff_ne, ne_eq]
  intro e
  apply h
  cases s; cases t
  simp at e
  rw [e]
set_option maxRecDepth 100000 in
set_option maxHeartbeats 1000000 in
theorem strings_any (L M : List ByteArray) (v v' : Value) (w : World) (h : StrV w v L) (h' : StrV w v' M) :
    Calls Tryd.prog 19 #[v, v'] w fun e w' => e = .returned (.bool (decide (L = M))) ∧ Below w.heap.size w w' := by
  obtain ⟨A, cap, rfl, hl, hc⟩ := h
  obtain ⟨A', cap', rfl, hl', hc'⟩ := h'
  obtain ⟨n, hn⟩ : ∃ n, L.length = n := ⟨_, rfl⟩
  obtain ⟨m, hm⟩ : ∃ m, M.length = m := ⟨_, rfl⟩
  rw [hn] at hl ⊢
  rw [hm] at hl' ⊢
  have HC := hide hc
  have HC' := hide hc'
  have HN := hide hn
  have HM := hide hm
  clear hc hc' hn hm
  by_cases hnm : n = m
  case neg =>
    have HV := hide (show decide (L = M) = false from decide_eq_false (fun e => hnm (by rw [← HN.out, ← HM.out, e])))
    have hz : ¬ (n : Int) = (m : Int) := by omega
    go_enter Tryd.func19, Tryd.ntmps19
    go_wp2
    go_ret
    exact ⟨ret_bG HV.out.symm, Below.refl _ _⟩
  subst hnm
  go_enter Tryd.func19, Tryd.ntmps19
  go_wp2
  go_loopw [5] (fun iv wr => ∃ i : Nat, iv = .int .i64 i ∧ i ≤ n ∧ Hid (∀ j, j < i → L[j]? = M[j]?) ∧ Hid (Below w.heap.size w wr)) (fun iv _ => n - (intOf iv).toNat)
  case atStart => exact ⟨0, rfl, by omega, hide (fun j hj => by omega), hide (Below.refl _ _)⟩
  case round =>
    obtain ⟨i, rfl, hi, HE, HB⟩ := hrel
    by_cases hlt : i < n
    · obtain ⟨s, hs⟩ : ∃ s, L[i]? = some s := ⟨_, List.getElem?_eq_getElem (show i < L.length by rw [HN.out]; exact hlt)⟩
      obtain ⟨t, ht⟩ : ∃ t, M[i]? = some t := ⟨_, List.getElem?_eq_getElem (show i < M.length by rw [HM.out]; exact hlt)⟩
      obtain ⟨b, o, rfl, b1, b2⟩ := HC.out i s hs
      obtain ⟨b', o', rfl, b1', b2'⟩ := HC'.out i t ht
      have c1 := (HB.out.cell (p := ⟨b, o + i, none⟩) b1).trans b2
      have c2 := (HB.out.cell (p := ⟨b', o' + i, none⟩) b1').trans b2'
      have HS := hide hs
      have HT := hide ht
      clear b1 b2 b1' b2' hs ht
      by_cases hst : s = t
      · subst hst
        go_wp2
        go_region
        all_goals go_wp2
        go_roundw
        case rel => exact ⟨i + 1, by go_num, by omega, hide (fun j hj => by rcases Nat.lt_succ_iff_lt_or_eq.1 hj with h | rfl; exact HE.out j h; rw [HS.out, HT.out]), hide (below_drewG HB.out 1)⟩
        case measure => simp [intOf]; omega
      · have HV := hide (show decide (L = M) = false from decide_eq_false (fun e => by have h1 := HS.out; rw [e, HT.out] at h1; exact hst (Option.some.inj h1).symm))
        have hst2 := str_neq hst
        go_wp2
        go_region
        all_goals go_wp2
        go_ret
        exact ⟨ret_bG HV.out.symm, below_drewG HB.out 1⟩
    · obtain rfl : i = n := by omega
      have HV := hide (show decide (L = M) = true from decide_eq_true (List.ext_getElem? fun j => by
        by_cases hj : j < i
        · exact HE.out j hj
        · rw [List.getElem?_eq_none (by rw [HN.out]; omega), List.getElem?_eq_none (by rw [HM.out]; omega)]))
      go_wp2
      go_ret
      exact ⟨ret_bG HV.out.symm, HB.out⟩
/-- A frame as a value, laid open. -/
theorem FrAt.open {W : World} {v : Value} {f : Fr} (h : FrAt W v f) : ∃ A n c, v = .agg #[.int .i64 f.rows, .int .i64 f.cols, .slice A n c, .int .i64 f.row, .int .i64 f.col] := by
  obtain ⟨A, c, e, -⟩ := h
  exact ⟨A, _, c, e⟩
def ikCells (x : Ik) : List Value := [.int .i64 x.row, .int .i64 x.col, .int .i32 x.r, .int .i64 x.fg, .bool x.bo, .bool x.un, .bool x.iv]
def ptV (p : Pt) (A : Option Addr) (n cap : Nat) : Value := .agg #[.int .i64 p.rows, .int .i64 p.cols, .slice A n cap, .int .i64 p.row, .int .i64 p.col]
def ptCells (p : Pt) (A : Option Addr) (n cap : Nat) : List Value := [.int .i64 p.rows, .int .i64 p.cols, .slice A n cap, .int .i64 p.row, .int .i64 p.col]
def PtAt (W : World) (v : Value) (p : Pt) : Prop := ∃ A cap, v = ptV p A p.ink.length cap ∧ p.ink.length ≤ cap ∧ cap ≤ maxLen ∧ RowOf W 7 ikCells A p.ink
theorem PtAt.below {w W : World} {v : Value} {p : Pt} (h : PtAt w v p) (hb : Below w.heap.size w W) : PtAt W v p := by
  obtain ⟨A, cap, e, h1, h2, h3⟩ := h
  exact ⟨A, cap, e, h1, h2, h3.below hb⟩
set_option maxHeartbeats 1000000 in
theorem great_any (p : Pt) (v : Value) (w : World) (h : PtAt w v p) : Calls Tryd.prog 9 #[v] w fun e w' => e = .returned (.bool (decide (60 < p.ink.length))) ∧ Below w.heap.size w w' := by
  obtain ⟨A, cap, rfl, h1, h2, h3⟩ := h
  obtain ⟨n, hn⟩ : ∃ n, p.ink.length = n := ⟨_, rfl⟩
  unfold ptV
  rw [hn] at h1 ⊢
  clear h3 hn
  obtain ⟨rows, cols, ink, row, col⟩ := p
  dsimp only
  go_enter Tryd.func9, Tryd.ntmps9
  go_wp2
  go_ret
  exact ⟨ret_bG (by rw [Bool.eq_iff_iff]; simp <;> omega), (Below.refl _ _).alloc (Nat.le_refl _) _⟩
end Go.Proofs.YtojjdckpbmjjdaaDoor
