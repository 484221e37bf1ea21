/- Terminal: what is shown, in plain Lean. Terminal: the style. Terminal: clear. Terminal: none, clip, param. Terminal: what stays true of it, in plain Lean. -/
import Derived.Test.YtmemdhmjhckmaaaDoorZ17
namespace Go.Proofs.YtmemdhmjhckmaaaDoor
open Go.RowKit
set_option maxRecDepth 100000

/-- Cells are wiped from a place on. -/
def wipeN (L : List Cl) (i : Nat) : Nat → List Cl
  | 0 => L
  | k + 1 => wipeL (wipeN L i k) (i + k)
def allW (L : List Cl) : Prop := ∀ i, i < L.length → okW L i
theorem wipeN_len (L : List Cl) (i : Nat) : ∀ k, (wipeN L i k).length = L.length
  | 0 => rfl
  | k + 1 => by rw [wipeN, wipe_len, wipeN_len L i k]
theorem wipe_old (L : List Cl) (i j : Nat) (x : Cl) (h : (wipeL L i)[j]? = some x) : L[j]? = some x ∨ x = blankC := by
  have key : ∀ (M : List Cl) (q : Nat), (M.set q blankC)[j]? = some x → M[j]? = some x ∨ x = blankC := fun M q h => by
    rw [List.getElem?_set] at h
    split at h
    · split at h
      · right; injection h with h; exact h.symm
      · cases h
    · exact .inl h
  unfold wipeL at h
  rcases key _ _ h with h | h
  · split at h
    · exact key _ _ h
    · split at h
      · exact key _ _ h
      · exact .inl h
  · exact .inr h
theorem okW_wipe {L : List Cl} {j : Nat} (h : okW L j) (i : Nat) : okW (wipeL L i) j := by
  obtain ⟨x, hx, h2, h0⟩ := h
  have hj := (List.getElem?_eq_some_iff.1 hx).1
  refine ⟨_, List.getElem?_eq_getElem (by rw [wipe_len]; exact hj), fun e => ?_, fun e => ?_⟩
  · rw [wipe_len]
    rcases wipe_old L i j _ (List.getElem?_eq_getElem (by rw [wipe_len]; exact hj)) with h | h
    · rw [hx] at h; injection h with h; exact h2 (by rw [h]; exact e)
    · rw [h] at e; exact absurd e (by decide)
  · rcases wipe_old L i j _ (List.getElem?_eq_getElem (by rw [wipe_len]; exact hj)) with h | h
    · rw [hx] at h; injection h with h; exact h0 (by rw [h]; exact e)
    · rw [h] at e; exact absurd e (by decide)
theorem allW_wipe {L : List Cl} (h : allW L) (i : Nat) : allW (wipeL L i) := fun j hj => okW_wipe (h j (by rw [wipe_len] at hj; exact hj)) i
theorem allW_wipeN {L : List Cl} (h : allW L) (i : Nat) : ∀ k, allW (wipeN L i k)
  | 0 => h
  | k + 1 => allW_wipe (allW_wipeN h i k) _
def inkT (r w : Int) (s : Cl) : Cl := ⟨r, w, s.fg, s.bo, s.un, s.iv⟩
/-- The cells with a rune laid. -/
def layL (L : List Cl) (i m : Nat) (r : Int) (s : Cl) : List Cl :=
  if m = 2 then ((wipeN L i 2).set i (inkT r 2 s)).set (i + 1) (inkT 0 0 s) else (wipeN L i m).set i (inkT r m s)
/-- A rune is laid at the cursor. -/
def layM (t : Tm) (r : Int) (m : Nat) : Tm := { t with cs := layL t.cs (t.row * t.cols + t.col) m r t.sty, col := if t.cols ≤ t.col + m then t.cols - 1 else t.col + m, waits := decide (t.cols ≤ t.col + m) }
def wrapM (t : Tm) : Tm := feedM { t with col := 0, waits := false }
def wrapsB (t : Tm) (m : Nat) : Bool := t.waits || (decide (m = 2) && decide (t.col + 1 = t.cols))
def showM (t : Tm) (r : Int) (m : Nat) : Tm := layM (if wrapsB t m = true then wrapM t else t) r m
theorem wrap_form (R C : Nat) (cs : List Cl) (row col : Nat) (p : Nat × ByteArray) (s : Cl) (wt : Bool) (bl : Nat) : ∃ cs1 row1, feedM ⟨R, C, cs, row, col, p, s, wt, bl⟩ = ⟨R, C, cs1, row1, col, p, s, wt, bl⟩ := by
  unfold feedM
  split
  · exact ⟨_, _, rfl⟩
  · exact ⟨_, _, rfl⟩
end Go.Proofs.YtmemdhmjhckmaaaDoor
namespace Go.Proofs.YtmemdhmjhckmaaaDoor
open Go.RowKit
set_option maxRecDepth 100000

def lookS (s : Cl) (n : Int) : Cl :=
  if n = 0 then ⟨s.r, s.w, 0, false, false, false⟩
  else if n = 1 ∨ n = 22 then { s with bo := decide (n = 1) }
  else if n = 4 ∨ n = 24 then { s with un := decide (n = 4) }
  else if n = 7 ∨ n = 27 then { s with iv := decide (n = 7) }
  else if 30 ≤ n ∧ n ≤ 37 then { s with fg := n - 29 }
  else if n = 39 then { s with fg := 0 } else s
def nzL (l : List Int) : List Int := if l.length = 0 then [0] else l
def lookM (t : Tm) (l : List Int) : Tm := { t with sty := (nzL l).foldl lookS t.sty }
theorem NumsV.k2 {w0 W V : World} {z g cap : Nat} {t : Tm} {v : Value} {l : List Int} (h : NumsV W v l) (hm : TmB w0 W z g cap t) (hk : K2 z g W V) : NumsV V v l := by
  obtain ⟨A, c, e, hc⟩ := h
  refine ⟨A, c, e, fun j x hx => ?_⟩
  obtain ⟨b, o, ea, ⟨cs, f, hb⟩, hx⟩ := hc j x hx
  have hbz : b ≠ z := by
    rintro rfl
    have := hm.b
    unfold Blk at this
    rw [hb] at this
    injection this with this
    injection this with _ e2 _
    exact absurd e2 (by decide)
  have hbg : b ≠ g := by
    rintro rfl
    rcases hm.own.2 with ⟨e, -⟩ | ⟨g', cap', cur, e, -, hh, -⟩
    · cases e
    · injection e with e1 e2 e3
      injection e1 with e1; injection e1 with e1 e1'; subst e1
      rw [hb] at hh
      injection hh with hh
      injection hh with _ e2 _
      exact absurd e2 (by decide)
  have hblk := hk.block b (Array.getElem?_eq_some_iff.1 hb).1 hbz hbg
  exact ⟨b, o, ea, ⟨cs, f, hblk.trans hb⟩, (World.cell?_of_block hblk).trans hx⟩
theorem look_step {l : List Int} {k : Nat} {x : Int} (h : l[k]? = some x) (s : Cl) : (l.take (k + 1)).foldl lookS s = lookS ((l.take k).foldl lookS s) x := by
  rw [List.take_add_one, h]
  simp
set_option maxHeartbeats 8000000 in
theorem tlook_any {w0 W : World} {z g cap : Nat} (t : Tm) (h : TmB w0 W z g cap t) (v : Value) (l : List Int) (hv : NumsV W v l) (hl : l.length ≤ 100000) (h9 : ∀ x ∈ l, 0 ≤ x ∧ x ≤ 9999) :
    Calls Tryd.prog 82 #[.pointer (some ⟨z, 0, none⟩), v] W (Mv w0 W z g cap (lookM t l)) := by
  obtain ⟨R, C, cs, row, col, ⟨a, tx⟩, s, wt, bl⟩ := t
  obtain ⟨A, c, rfl, hc⟩ := hv
  have HNU0 := hide (show NumsV W (.slice A l.length c) l from ⟨A, c, rfl, hc⟩)
  have H := hide h
  have H9 := hide h9
  clear h hc h9
  by_cases h0 : l.length = 0
  · have HLM := hide (show lookM ⟨R, C, cs, row, col, (a, tx), s, wt, bl⟩ l = ⟨R, C, cs, row, col, (a, tx), ⟨s.r, s.w, 0, false, false, false⟩, wt, bl⟩ by unfold lookM nzL; rw [if_pos h0]; rfl)
    rw [h0]
    have hbl : Below W.heap.size W (W.alloc (.cells #[.int .i64 0] 3)) := (Below.refl _ _).alloc (Nat.le_refl _) _
    have hzl := H.out.b.lt
    have hgl := H.out.own.ltG
    obtain ⟨y, hy⟩ : ∃ y, W.heap.size = y := ⟨_, rfl⟩
    have HC := hide (Blk.new W 3 [.int .i64 0])
    rw [show [Value.int .i64 0].toArray = #[.int .i64 0] from rfl] at HC
    obtain ⟨W1, hW1⟩ : ∃ V, W.alloc (.cells #[.int .i64 0] 3) = V := ⟨_, rfl⟩
    rw [hW1, hy] at HC
    have H1 := hide (show TmB w0 W1 z g cap ⟨R, C, cs, row, col, (a, tx), s, wt, bl⟩ by rw [← hW1]; exact H.out.low hbl)
    have K1 := hide (show K2 z g W W1 by rw [← hW1]; exact K2.of hbl)
    have hyz : y ≠ z := by omega
    have hyg : y ≠ g := by omega
    clear hbl H hzl hgl
    go_enter Tryd.func82, Tryd.ntmps82
    go_wp2_with fail
    (try rw [hW1])
    (try rw [hy])
    clear hW1 HNU0 H9 h0 hl hy
    go_loopw [12] (fun jv wr => (jv = .int .i64 0 ∧ Hid (TmB w0 wr z g cap ⟨R, C, cs, row, col, (a, tx), s, wt, bl⟩) ∧ Hid (K2 z g W1 wr)) ∨ (jv = .int .i64 1 ∧ Hid (TmB w0 wr z g cap ⟨R, C, cs, row, col, (a, tx), ⟨s.r, s.w, 0, false, false, false⟩, wt, bl⟩) ∧ Hid (K2 z g W1 wr))) (fun jv _ => 1 - (intOf jv).toNat)
    case atStart => exact .inl ⟨rfl, H1, hide (K2.refl _ _ _)⟩
    case round =>
      rcases hrel with ⟨rfl, HW, HK⟩ | ⟨rfl, HW, HK⟩
      · have hc0 := (HK.out.blk HC.out hyz hyg).cell (i := 0) rfl
        obtain ⟨sr, sw, fg, bo, un, iv⟩ := s
        obtain ⟨-, -, -, -, -, -, -, -, c8, c9, c10, c11, -⟩ := HW.out.reads
        have bf := fun i => HW.out.b.frozen i
        dsimp only at c8 c9 c10 c11
        go_wp2_with fail
        have H2 := (((HW.out.setZ ⟨R, C, cs, row, col, (a, tx), ⟨sr, sw, 0, bo, un, iv⟩, wt, bl⟩ 8 (.int .i64 0) rfl rfl).setZ ⟨R, C, cs, row, col, (a, tx), ⟨sr, sw, 0, false, un, iv⟩, wt, bl⟩ 9 (.bool false) rfl rfl).setZ ⟨R, C, cs, row, col, (a, tx), ⟨sr, sw, 0, false, false, iv⟩, wt, bl⟩ 10 (.bool false) rfl rfl).setZ ⟨R, C, cs, row, col, (a, tx), ⟨sr, sw, 0, false, false, false⟩, wt, bl⟩ 11 (.bool false) rfl rfl
        exact ⟨.inr ⟨rfl, hide H2, hide ((((HK.out.trans (K2.set _ _ _ _ _)).trans (K2.set _ _ _ _ _)).trans (K2.set _ _ _ _ _)).trans (K2.set _ _ _ _ _))⟩, by simp [intOf]⟩
      · go_wp2
        go_end0
        rw [HLM.out]
        exact Mv.mk HW.out (K1.out.trans HK.out)
  · have HLM := hide (show lookM ⟨R, C, cs, row, col, (a, tx), s, wt, bl⟩ l = ⟨R, C, cs, row, col, (a, tx), l.foldl lookS s, wt, bl⟩ by unfold lookM nzL; rw [if_neg h0])
    have hlb : ((l.length : Int) == 0) = false := by rw [beq_eq_false_iff_ne]; omega
    go_enter Tryd.func82, Tryd.ntmps82
    go_wp2_with fail
    obtain ⟨l1, hl1⟩ : ∃ q, l = q := ⟨_, rfl⟩
    rw [hl1] at HLM HNU0 H9 ⊢
    have HB9 := H9
    have HNU := HNU0
    have H1 := H
    obtain ⟨W1, hW1⟩ : ∃ V, W = V := ⟨_, rfl⟩
    rw [hW1] at H1 HNU ⊢
    have K1 := hide (K2.refl z g W1)
    obtain ⟨m, hm⟩ : ∃ m, l1.length = m := ⟨_, rfl⟩
    have HM := hide hm
    have hmb : m ≤ 100000 := by rw [← hm, ← hl1]; exact hl
    rw [hm] at HNU ⊢
    clear hW1 HNU0 H9 H h0 hlb hl hl1 hm
    go_loopw [12] (fun jv wr => ∃ k : Nat, jv = .int .i64 (k : Int) ∧ k ≤ m ∧ Hid (TmB w0 wr z g cap ⟨R, C, cs, row, col, (a, tx), (l1.take k).foldl lookS s, wt, bl⟩) ∧ Hid (K2 z g W1 wr)) (fun jv _ => m - (intOf jv).toNat)
    case atStart => exact ⟨0, rfl, by omega, H1, hide (K2.refl _ _ _)⟩
    case round =>
      obtain ⟨k, rfl, hk, HW, HK⟩ := hrel
      by_cases hlt : k < m
      · have hkm : (k : Int) < (m : Int) := by omega
        obtain ⟨x, hx⟩ : ∃ x, l1[k]? = some x := ⟨_, List.getElem?_eq_getElem (by rw [HM.out]; exact hlt)⟩
        obtain ⟨A', c', ev, hcx⟩ := HNU.out.k2 H1.out HK.out
        obtain ⟨b, o, rfl, hty, hc0⟩ := hcx k x hx
        injection ev with ev1 ev2 ev3
        subst ev1
        have hx9 := HB9.out x (List.mem_of_getElem? hx)
        have HST := hide (look_step hx s)
        clear hcx hty ev2 ev3 hx
        obtain ⟨sk, hsk⟩ : ∃ q, (l1.take k).foldl lookS s = q := ⟨_, rfl⟩
        rw [hsk] at HW HST
        clear hsk
        obtain ⟨sr, sw, fg, bo, un, iv⟩ := sk
        obtain ⟨-, -, -, -, -, -, -, -, c8, c9, c10, c11, -⟩ := HW.out.reads
        have bf := fun i => HW.out.b.frozen i
        dsimp only at c8 c9 c10 c11
        by_cases x0 : x = 0
        · subst x0
          have HS2 := hide (show lookS ⟨sr, sw, fg, bo, un, iv⟩ 0 = ⟨sr, sw, 0, false, false, false⟩ by rfl)
          go_wp2_with fail
          have H2 := ((((HW.out).setZ ⟨R, C, cs, row, col, (a, tx), ⟨sr, sw, 0, bo, un, iv⟩, wt, bl⟩ 8 (.int .i64 0) rfl rfl).setZ ⟨R, C, cs, row, col, (a, tx), ⟨sr, sw, 0, false, un, iv⟩, wt, bl⟩ 9 (.bool false) rfl rfl).setZ ⟨R, C, cs, row, col, (a, tx), ⟨sr, sw, 0, false, false, iv⟩, wt, bl⟩ 10 (.bool false) rfl rfl).setZ ⟨R, C, cs, row, col, (a, tx), ⟨sr, sw, 0, false, false, false⟩, wt, bl⟩ 11 (.bool false) rfl rfl
          exact ⟨⟨k + 1, by go_num, by omega, hide (by rw [HST.out, HS2.out]; exact H2), hide (((((HK.out).trans (K2.set _ _ _ _ _)).trans (K2.set _ _ _ _ _)).trans (K2.set _ _ _ _ _)).trans (K2.set _ _ _ _ _))⟩, by simp [intOf]; omega⟩
        have e0 : (x == 0) = false := by simpa using x0
        by_cases x1 : x = 1
        · subst x1
          have HS2 := hide (show lookS ⟨sr, sw, fg, bo, un, iv⟩ 1 = ⟨sr, sw, fg, true, un, iv⟩ by rfl)
          go_wp2_with fail
          have H2 := (HW.out).setZ ⟨R, C, cs, row, col, (a, tx), ⟨sr, sw, fg, true, un, iv⟩, wt, bl⟩ 9 (.bool true) rfl rfl
          exact ⟨⟨k + 1, by go_num, by omega, hide (by rw [HST.out, HS2.out]; exact H2), hide ((HK.out).trans (K2.set _ _ _ _ _))⟩, by simp [intOf]; omega⟩
        have e1 : (x == 1) = false := by simpa using x1
        by_cases x22 : x = 22
        · subst x22
          have HS2 := hide (show lookS ⟨sr, sw, fg, bo, un, iv⟩ 22 = ⟨sr, sw, fg, false, un, iv⟩ by rfl)
          go_wp2_with fail
          have H2 := (HW.out).setZ ⟨R, C, cs, row, col, (a, tx), ⟨sr, sw, fg, false, un, iv⟩, wt, bl⟩ 9 (.bool false) rfl rfl
          exact ⟨⟨k + 1, by go_num, by omega, hide (by rw [HST.out, HS2.out]; exact H2), hide ((HK.out).trans (K2.set _ _ _ _ _))⟩, by simp [intOf]; omega⟩
        have e22 : (x == 22) = false := by simpa using x22
        by_cases x4 : x = 4
        · subst x4
          have HS2 := hide (show lookS ⟨sr, sw, fg, bo, un, iv⟩ 4 = ⟨sr, sw, fg, bo, true, iv⟩ by rfl)
          go_wp2_with fail
          have H2 := (HW.out).setZ ⟨R, C, cs, row, col, (a, tx), ⟨sr, sw, fg, bo, true, iv⟩, wt, bl⟩ 10 (.bool true) rfl rfl
          exact ⟨⟨k + 1, by go_num, by omega, hide (by rw [HST.out, HS2.out]; exact H2), hide ((HK.out).trans (K2.set _ _ _ _ _))⟩, by simp [intOf]; omega⟩
        have e4 : (x == 4) = false := by simpa using x4
        by_cases x24 : x = 24
        · subst x24
          have HS2 := hide (show lookS ⟨sr, sw, fg, bo, un, iv⟩ 24 = ⟨sr, sw, fg, bo, false, iv⟩ by rfl)
          go_wp2_with fail
          have H2 := (HW.out).setZ ⟨R, C, cs, row, col, (a, tx), ⟨sr, sw, fg, bo, false, iv⟩, wt, bl⟩ 10 (.bool false) rfl rfl
          exact ⟨⟨k + 1, by go_num, by omega, hide (by rw [HST.out, HS2.out]; exact H2), hide ((HK.out).trans (K2.set _ _ _ _ _))⟩, by simp [intOf]; omega⟩
        have e24 : (x == 24) = false := by simpa using x24
        by_cases x7 : x = 7
        · subst x7
          have HS2 := hide (show lookS ⟨sr, sw, fg, bo, un, iv⟩ 7 = ⟨sr, sw, fg, bo, un, true⟩ by rfl)
          go_wp2_with fail
          have H2 := (HW.out).setZ ⟨R, C, cs, row, col, (a, tx), ⟨sr, sw, fg, bo, un, true⟩, wt, bl⟩ 11 (.bool true) rfl rfl
          exact ⟨⟨k + 1, by go_num, by omega, hide (by rw [HST.out, HS2.out]; exact H2), hide ((HK.out).trans (K2.set _ _ _ _ _))⟩, by simp [intOf]; omega⟩
        have e7 : (x == 7) = false := by simpa using x7
        by_cases x27 : x = 27
        · subst x27
          have HS2 := hide (show lookS ⟨sr, sw, fg, bo, un, iv⟩ 27 = ⟨sr, sw, fg, bo, un, false⟩ by rfl)
          go_wp2_with fail
          have H2 := (HW.out).setZ ⟨R, C, cs, row, col, (a, tx), ⟨sr, sw, fg, bo, un, false⟩, wt, bl⟩ 11 (.bool false) rfl rfl
          exact ⟨⟨k + 1, by go_num, by omega, hide (by rw [HST.out, HS2.out]; exact H2), hide ((HK.out).trans (K2.set _ _ _ _ _))⟩, by simp [intOf]; omega⟩
        have e27 : (x == 27) = false := by simpa using x27
        by_cases hr : 30 ≤ x ∧ x ≤ 37
        · have r1 := hr.1
          have r2 := hr.2
          have HS2 := hide (show lookS ⟨sr, sw, fg, bo, un, iv⟩ x = ⟨sr, sw, x - 29, bo, un, iv⟩ by unfold lookS; rw [if_neg x0, if_neg (by omega), if_neg (by omega), if_neg (by omega), if_pos hr])
          go_wp2_with fail
          have H2 := (HW.out).setZ ⟨R, C, cs, row, col, (a, tx), ⟨sr, sw, x - 29, bo, un, iv⟩, wt, bl⟩ 8 (.int .i64 (x - 29)) rfl rfl
          exact ⟨⟨k + 1, by go_num, by omega, hide (by rw [HST.out, HS2.out]; exact H2), hide ((HK.out).trans (K2.set _ _ _ _ _))⟩, by simp [intOf]; omega⟩
        have h39 : lookS ⟨sr, sw, fg, bo, un, iv⟩ x = if x = 39 then ⟨sr, sw, 0, bo, un, iv⟩ else ⟨sr, sw, fg, bo, un, iv⟩ := by unfold lookS; rw [if_neg x0, if_neg (by omega), if_neg (by omega), if_neg (by omega), if_neg hr]
        have H39 := hide h39
        clear h39
        by_cases r1 : 30 ≤ x
        · have r2 : ¬ x ≤ 37 := fun h => hr ⟨r1, h⟩
          by_cases x39 : x = 39
          · subst x39
            have HS2 := hide (H39.out.trans (if_pos rfl))
            go_wp2_with fail
            have H2 := (HW.out).setZ ⟨R, C, cs, row, col, (a, tx), ⟨sr, sw, 0, bo, un, iv⟩, wt, bl⟩ 8 (.int .i64 0) rfl rfl
            exact ⟨⟨k + 1, by go_num, by omega, hide (by rw [HST.out, HS2.out]; exact H2), hide ((HK.out).trans (K2.set _ _ _ _ _))⟩, by simp [intOf]; omega⟩
          · have e39 : (x == 39) = false := by simpa using x39
            have HS2 := hide (H39.out.trans (if_neg x39))
            go_wp2_with fail
            exact ⟨⟨k + 1, by go_num, by omega, hide (by rw [HST.out, HS2.out]; exact HW.out), HK⟩, by simp [intOf]; omega⟩
        · have e39 : (x == 39) = false := by simp; omega
          have HS2 := hide (H39.out.trans (if_neg (by omega)))
          go_wp2_with fail
          exact ⟨⟨k + 1, by go_num, by omega, hide (by rw [HST.out, HS2.out]; exact HW.out), HK⟩, by simp [intOf]; omega⟩
      · obtain rfl : k = m := by omega
        have hkm : ¬ (k : Int) < (k : Int) := by omega
        go_wp2
        go_end0
        rw [HLM.out]
        have ht : l1.take k = l1 := List.take_of_length_le (by rw [HM.out]; exact Nat.le_refl _)
        rw [ht] at HW
        exact Mv.mk HW.out (K1.out.trans HK.out)
end Go.Proofs.YtmemdhmjhckmaaaDoor
namespace Go.Proofs.YtmemdhmjhckmaaaDoor
open Go.RowKit
set_option maxRecDepth 100000

def wipeT (t : Tm) (i k : Nat) : Tm := { t with cs := wipeN t.cs i k }
/-- Cells are cleared: from the cursor on, up to it, or all. -/
def clearM (t : Tm) (how : Int) (from_ to_ : Nat) : Tm :=
  let at_ := t.row * t.cols + t.col
  if how = 0 then wipeT t at_ (to_ - at_) else if how = 1 then wipeT t from_ (at_ + 1 - from_) else if how = 2 then wipeT t from_ (to_ - from_) else t
set_option maxHeartbeats 8000000 in
theorem tclear_any {w0 W : World} {z g cap : Nat} (t : Tm) (h : TmB w0 W z g cap t) (hT : Tabs w0) (hC : t.rows ≤ 100 ∧ t.cols ≤ 200) (hL : t.cs.length = t.rows * t.cols) (hrow : t.row < t.rows) (hcol : t.col < t.cols) (hA : allW t.cs) (how : Int) (f q : Nat) (hf : f ≤ q) (hq : q ≤ t.cs.length) :
    Calls Tryd.prog 81 #[.pointer (some ⟨z, 0, none⟩), .int .i64 how, .int .i64 (f : Int), .int .i64 (q : Int)] W (Mv w0 W z g cap (clearM t how f q)) := by
  obtain ⟨R, C, cs, row, col, ⟨a, tx⟩, s, wt, bl⟩ := t
  dsimp only at *
  obtain ⟨n, hne⟩ : ∃ n, R * C = n := ⟨_, rfl⟩
  have hn : n ≤ 20000 := by rw [← hne]; exact Nat.le_trans (Nat.mul_le_mul hC.1 hC.2) (by decide)
  rw [hne] at hL
  rw [hL] at hq
  obtain ⟨p, hp⟩ : ∃ q, row * C = q := ⟨_, rfl⟩
  have hq1 : p + C ≤ n := by
    have h1 : (row + 1) * C ≤ R * C := Nat.mul_le_mul_right C (by omega)
    rw [Nat.add_mul, Nat.one_mul, hp, hne] at h1
    exact h1
  have hqw := wrap_mul hp (by omega)
  obtain ⟨at_, hat⟩ : ∃ x, p + col = x := ⟨_, rfl⟩
  have hatw : IntKind.i64.wrap ((p : Int) + (col : Int)) = (at_ : Int) := (Go.wrap_small _ (by omega) (by omega)).trans (by omega)
  have hatn : at_ + 1 ≤ n := by omega
  have HCL := hide (show clearM ⟨R, C, cs, row, col, (a, tx), s, wt, bl⟩ how f q = (if how = 0 then wipeT ⟨R, C, cs, row, col, (a, tx), s, wt, bl⟩ at_ (q - at_) else if how = 1 then wipeT ⟨R, C, cs, row, col, (a, tx), s, wt, bl⟩ f (at_ + 1 - f) else if how = 2 then wipeT ⟨R, C, cs, row, col, (a, tx), s, wt, bl⟩ f (q - f) else ⟨R, C, cs, row, col, (a, tx), s, wt, bl⟩) from by unfold clearM; dsimp only; rw [hp, hat])
  have HN := hide hL
  have HA := hide hA
  have H := hide h
  clear hp hat hne hL hA h
  obtain ⟨-, -, c2, -, c4, c5, -⟩ := H.out.reads
  by_cases h0 : how = 0
  · subst h0
    have HE := hide (show clearM ⟨R, C, cs, row, col, (a, tx), s, wt, bl⟩ 0 f q = ⟨R, C, wipeN cs at_ (q - at_), row, col, (a, tx), s, wt, bl⟩ by rw [HCL.out, if_pos rfl]; rfl)
    clear HCL
    go_enter Tryd.func81, Tryd.ntmps81
    go_wp2_with fail
    go_region
    obtain ⟨U, hU, H1, K1⟩ := named (R := fun V => TmB w0 V z g cap ⟨R, C, cs, row, col, (a, tx), s, wt, bl⟩ ∧ K2 z g W V) ⟨H.out.low (Below.refl _ _).drew, K2.drew⟩
    rw [hU]
    have H1 := hide H1
    have K1 := hide K1
    clear hU c2 c4 c5 H
    go_wp2_with fail
    go_loopw [9] (fun jv wr => ∃ k : Nat, jv = .int .i64 ((at_ + k : Nat) : Int) ∧ k ≤ q - at_ ∧ Hid (TmB w0 wr z g cap ⟨R, C, wipeN cs at_ k, row, col, (a, tx), s, wt, bl⟩) ∧ Hid (K2 z g W wr)) (fun jv _ => q - (intOf jv).toNat)
    case atStart => exact ⟨0, rfl, by omega, H1, K1⟩
    case round =>
      clear H1 K1
      obtain ⟨k, rfl, hk, HW, HK⟩ := hrel
      by_cases hlt : k < q - at_
      · have hkk : ((at_ + k : Nat) : Int) < (q : Int) := by omega
        go_wp2_with fail
        refine (terase_any _ HW.out hT (by dsimp only; rw [wipeN_len, HN.out]; exact hn) (at_ + k) (by dsimp only; exact allW_wipeN HA.out _ _ _ (by rw [wipeN_len, HN.out]; omega))).mono ?_; rintro e w' ⟨rfl, H2, K2'⟩
        have H2 := hide H2
        have K3 := hide (HK.out.trans K2')
        clear K2'
        go_wp2
        exact ⟨⟨k + 1, by go_num, by omega, H2, K3⟩, by simp [intOf]; omega⟩
      · obtain rfl : k = q - at_ := by omega
        have hkk : ¬ ((at_ + (q - at_) : Nat) : Int) < (q : Int) := by omega
        go_wp2
        go_end0
        rw [HE.out]
        exact Mv.mk HW.out HK.out
  by_cases h1 : how = 1
  · subst h1
    have HE := hide (show clearM ⟨R, C, cs, row, col, (a, tx), s, wt, bl⟩ 1 f q = ⟨R, C, wipeN cs f (at_ + 1 - f), row, col, (a, tx), s, wt, bl⟩ by rw [HCL.out, if_neg (by decide), if_pos rfl]; rfl)
    clear HCL
    obtain ⟨at1, hat1⟩ : ∃ x, at_ + 1 = x := ⟨_, rfl⟩
    have hat1w : IntKind.i64.wrap ((at_ : Int) + 1) = (at1 : Int) := (Go.wrap_small _ (by omega) (by omega)).trans (by omega)
    rw [hat1] at HE hatn
    have hat1z : (at_ : Int) + 1 = (at1 : Int) := by omega
    clear hat1
    go_enter Tryd.func81, Tryd.ntmps81
    go_wp2_with fail
    go_region
    obtain ⟨U, hU, H1, K1⟩ := named (R := fun V => TmB w0 V z g cap ⟨R, C, cs, row, col, (a, tx), s, wt, bl⟩ ∧ K2 z g W V) ⟨H.out.low (Below.refl _ _).drew, K2.drew⟩
    rw [hU]
    have H1 := hide H1
    have K1 := hide K1
    clear hU c2 c4 c5 H
    go_wp2_with fail
    go_loopw [9] (fun jv wr => ∃ k : Nat, jv = .int .i64 ((f + k : Nat) : Int) ∧ k ≤ at1 - f ∧ Hid (TmB w0 wr z g cap ⟨R, C, wipeN cs f k, row, col, (a, tx), s, wt, bl⟩) ∧ Hid (K2 z g W wr)) (fun jv _ => at1 - (intOf jv).toNat)
    case atStart => exact ⟨0, rfl, by omega, H1, K1⟩
    case round =>
      clear H1 K1
      obtain ⟨k, rfl, hk, HW, HK⟩ := hrel
      by_cases hlt : k < at1 - f
      · have hkk : ((f + k : Nat) : Int) < (at1 : Int) := by omega
        go_wp2_with fail
        refine (terase_any _ HW.out hT (by dsimp only; rw [wipeN_len, HN.out]; exact hn) (f + k) (by dsimp only; exact allW_wipeN HA.out _ _ _ (by rw [wipeN_len, HN.out]; omega))).mono ?_; rintro e w' ⟨rfl, H2, K2'⟩
        have H2 := hide H2
        have K3 := hide (HK.out.trans K2')
        clear K2'
        go_wp2
        exact ⟨⟨k + 1, by go_num, by omega, H2, K3⟩, by simp [intOf]; omega⟩
      · obtain rfl : k = at1 - f := by omega
        have hkk : ¬ ((f + (at1 - f) : Nat) : Int) < (at1 : Int) := by omega
        go_wp2
        go_end0
        rw [HE.out]
        exact Mv.mk HW.out HK.out
  have e0 : (how == 0) = false := by simpa using h0
  have e1 : (how == 1) = false := by simpa using h1
  by_cases h2 : how = 2
  · subst h2
    have HE := hide (show clearM ⟨R, C, cs, row, col, (a, tx), s, wt, bl⟩ 2 f q = ⟨R, C, wipeN cs f (q - f), row, col, (a, tx), s, wt, bl⟩ by rw [HCL.out, if_neg (by decide), if_neg (by decide), if_pos rfl]; rfl)
    clear HCL
    go_enter Tryd.func81, Tryd.ntmps81
    go_wp2_with fail
    go_region
    obtain ⟨U, hU, H1, K1⟩ := named (R := fun V => TmB w0 V z g cap ⟨R, C, cs, row, col, (a, tx), s, wt, bl⟩ ∧ K2 z g W V) ⟨H.out.low (Below.refl _ _).drew, K2.drew⟩
    rw [hU]
    have H1 := hide H1
    have K1 := hide K1
    clear hU c2 c4 c5 H
    go_wp2_with fail
    go_loopw [9] (fun jv wr => ∃ k : Nat, jv = .int .i64 ((f + k : Nat) : Int) ∧ k ≤ q - f ∧ Hid (TmB w0 wr z g cap ⟨R, C, wipeN cs f k, row, col, (a, tx), s, wt, bl⟩) ∧ Hid (K2 z g W wr)) (fun jv _ => q - (intOf jv).toNat)
    case atStart => exact ⟨0, rfl, by omega, H1, K1⟩
    case round =>
      clear H1 K1
      obtain ⟨k, rfl, hk, HW, HK⟩ := hrel
      by_cases hlt : k < q - f
      · have hkk : ((f + k : Nat) : Int) < (q : Int) := by omega
        go_wp2_with fail
        refine (terase_any _ HW.out hT (by dsimp only; rw [wipeN_len, HN.out]; exact hn) (f + k) (by dsimp only; exact allW_wipeN HA.out _ _ _ (by rw [wipeN_len, HN.out]; omega))).mono ?_; rintro e w' ⟨rfl, H2, K2'⟩
        have H2 := hide H2
        have K3 := hide (HK.out.trans K2')
        clear K2'
        go_wp2
        exact ⟨⟨k + 1, by go_num, by omega, H2, K3⟩, by simp [intOf]; omega⟩
      · obtain rfl : k = q - f := by omega
        have hkk : ¬ ((f + (q - f) : Nat) : Int) < (q : Int) := by omega
        go_wp2
        go_end0
        rw [HE.out]
        exact Mv.mk HW.out HK.out
  · have e2 : (how == 2) = false := by simpa using h2
    have HE := hide (show clearM ⟨R, C, cs, row, col, (a, tx), s, wt, bl⟩ how f q = ⟨R, C, cs, row, col, (a, tx), s, wt, bl⟩ by rw [HCL.out, if_neg h0, if_neg h1, if_neg h2])
    clear HCL
    go_enter Tryd.func81, Tryd.ntmps81
    go_wp2_with fail
    go_region
    go_wp2
    go_end0
    rw [HE.out]
    exact Mv.mk (H.out.low (Below.refl _ _).drew) K2.drew
end Go.Proofs.YtmemdhmjhckmaaaDoor
namespace Go.Proofs.YtmemdhmjhckmaaaDoor
open Go.RowKit
set_option maxRecDepth 100000

theorem tnone_any {w0 W : World} {z g cap : Nat} (t : Tm) (h : TmB w0 W z g cap t) : Calls Tryd.prog 28 #[.pointer (some ⟨z, 0, none⟩)] W fun e w' => e = .returned (.bool false) ∧ W = w' := by
  obtain ⟨R, C, cs, row, col, ⟨a, tx⟩, s, wt, bl⟩ := t
  obtain ⟨c0, -⟩ := h.reads
  clear h
  go_enter Tryd.func28, Tryd.ntmps28
  go_wp2
  go_ret
  exact ⟨rfl, rfl⟩
def clipN (n many : Int) : Nat := (min (max n 0) (many - 1)).toNat
theorem clip_lt {n many : Int} (h : 1 ≤ many) : (clipN n many : Int) < many := by unfold clipN; omega
theorem clip_any (n many : Int) (w : World) (hn : -1000000 ≤ n ∧ n ≤ 1000000) (hm : 1 ≤ many ∧ many ≤ 1000000) : Calls Tryd.prog 80 #[.int .i64 n, .int .i64 many] w fun e w' => e = .returned (.int .i64 (clipN n many : Int)) ∧ w = w' := by
  have hc := hide (show min (max n 0) (many - 1) = (clipN n many : Int) by unfold clipN; omega)
  have h1 := hn.1
  have h2 := hn.2
  have h3 := hm.1
  have h4 := hm.2
  clear hn hm
  go_enter Tryd.func80, Tryd.ntmps80
  go_wp2
  go_ret
  exact ⟨by rw [← hc.out]; rfl, rfl⟩
theorem param_any (k r f : Int) (pv : Value) (l : List Int) (i : Nat) (w : World) (hv : NumsV w pv l) (hl : l.length ≤ 100000) (hi : i ≤ 1) :
    Calls Tryd.prog 79 #[.agg #[.int .i64 k, .int .i32 r, pv, .int .u8 f], .int .i64 (i : Int)] w fun e w' => e = .returned (.int .i64 (l.getD i 0)) ∧ Below w.heap.size w w' := by
  obtain ⟨A, c, rfl, hc⟩ := hv
  have hbl : Below w.heap.size w (w.alloc (.cells #[.int .i64 k, .int .i32 r, .slice A l.length c, .int .u8 f] 72)) := (Below.refl _ _).alloc (Nat.le_refl _) _
  by_cases hlt : i < l.length
  · obtain ⟨x, hx⟩ : ∃ x, l[i]? = some x := ⟨_, List.getElem?_eq_getElem hlt⟩
    obtain ⟨b, o, rfl, -, h0⟩ := hc i x hx
    have h1 := cell_below hbl h0
    have hi2 : (i : Int) < (l.length : Int) := by omega
    have HX := hide (show l.getD i 0 = x by rw [List.getD_eq_getElem?_getD, hx]; rfl)
    obtain ⟨n, hn⟩ : ∃ n, l.length = n := ⟨_, rfl⟩
    rw [hn] at hi2 hlt hl h1 hbl ⊢
    have HB := hide hbl
    clear hc hx h0 hn hbl
    go_enter Tryd.func79, Tryd.ntmps79
    go_wp2
    go_ret
    exact ⟨by (first | rw [HX.out] | (have h := HX.out; rw [List.getD_eq_getElem?_getD] at h; rw [h])); rfl, HB.out⟩
  · have hi2 : ¬ (i : Int) < (l.length : Int) := by omega
    have HX := hide (show l.getD i 0 = 0 by rw [List.getD_eq_getElem?_getD, List.getElem?_eq_none (by omega)]; rfl)
    obtain ⟨n, hn⟩ : ∃ n, l.length = n := ⟨_, rfl⟩
    rw [hn] at hi2 hlt hl hbl ⊢
    have HB := hide hbl
    clear hc hn hbl
    go_enter Tryd.func79, Tryd.ntmps79
    go_wp2
    go_ret
    exact ⟨by (first | rw [HX.out] | (have h := HX.out; rw [List.getD_eq_getElem?_getD] at h; rw [h])); rfl, HB.out⟩
/-- A control sequence. -/
def seqM (t : Tm) (l : List Int) (fin : Int) : Tm :=
  let n := l.getD 0 0
  let many := max n 1
  if fin = 65 then { t with row := clipN ((t.row : Int) - many) t.rows, waits := false }
  else if fin = 66 then { t with row := clipN ((t.row : Int) + many) t.rows, waits := false }
  else if fin = 68 then { t with col := clipN ((t.col : Int) - many) t.cols, waits := false }
  else if fin = 67 then { t with col := clipN ((t.col : Int) + many) t.cols, waits := false }
  else if fin = 72 then { t with row := clipN (n - 1) t.rows, col := clipN (l.getD 1 0 - 1) t.cols, waits := false }
  else if fin = 75 then { clearM t n (t.row * t.cols) (t.row * t.cols + t.cols) with waits := false }
  else if fin = 74 then { clearM t n 0 t.cs.length with waits := false }
  else if fin = 109 then lookM t l
  else t
end Go.Proofs.YtmemdhmjhckmaaaDoor
namespace Go.Proofs.YtmemdhmjhckmaaaDoor
open Go.RowKit
set_option maxRecDepth 100000

structure Inv (t : Tm) : Prop where
  hR : 2 ≤ t.rows ∧ t.rows ≤ 100
  hC : 8 ≤ t.cols ∧ t.cols ≤ 200
  hL : t.cs.length = t.rows * t.cols
  hrow : t.row < t.rows
  hcol : t.col < t.cols
  hv : validL t.cs t.rows t.cols = true
  hs : styC t.sty = true
theorem wipe_put (L : List Cl) (i : Nat) : wipeL L i = putL L i 1 blankC := by
  unfold putL
  rw [if_neg (by decide)]
  unfold wipeL
  rw [List.set_set]
theorem wipe_valid {L : List Cl} {R C : Nat} (hL : L.length = R * C) (hv : validL L R C = true) {i : Nat} (hi : i < R * C) : validL (wipeL L i) R C = true := by
  have hC : 0 < C := Nat.pos_of_ne_zero (fun e => by rw [e] at hi; simp at hi)
  have hk : i / C < R := Nat.div_lt_of_lt_mul (by rw [Nat.mul_comm]; exact hi)
  have hm := Nat.mod_lt i hC
  have := putL_valid (k := i / C) (i := i % C) (n := 1) (c := blankC) hL hv hk (.inl rfl) (by omega) rfl (by decide +kernel) (by decide)
  rw [Nat.mul_comm, Nat.div_add_mod] at this
  rw [wipe_put]; exact this
theorem wipeN_valid {L : List Cl} {R C : Nat} (hL : L.length = R * C) (hv : validL L R C = true) (i : Nat) : ∀ k, i + k ≤ R * C → validL (wipeN L i k) R C = true
  | 0, _ => hv
  | k + 1, h => wipe_valid (by rw [wipeN_len, hL]) (wipeN_valid hL hv i k (by omega)) (by omega)
theorem lay_put (L : List Cl) (i : Nat) (m : Nat) (hm : m = 1 ∨ m = 2) (r : Int) (s : Cl) : layL L i m r s = putL L i m (inkT r m s) := by
  rcases hm with rfl | rfl
  · rfl
  · unfold layL putL
    rw [if_pos rfl, if_pos rfl, List.set_comm _ _ (by omega)]
    rfl
theorem cellW {L : List Cl} {R C : Nat} (hL : L.length = R * C) (hv : validL L R C = true) : allW L := by
  intro i hi
  have hC : 0 < C := Nat.pos_of_ne_zero (fun e => by rw [hL, e] at hi; simp at hi)
  have h := (valid_cells L R C hC hL).1 hv i _ (List.getElem?_eq_getElem hi)
  refine ⟨_, List.getElem?_eq_getElem hi, fun e => ?_, fun e => ?_⟩
  · unfold okAt at h
    rw [cell_2 e] at h
    split at h
    · simp at h
    · rcases Nat.lt_or_ge (i + 1) L.length with h2 | h2
      · exact h2
      · rw [List.getElem?_eq_none h2] at h; simp at h
  · unfold okAt at h
    rw [cell_0 e] at h
    split at h
    · simp at h
    · rename_i hm
      rcases Nat.eq_zero_or_pos i with h2 | h2
      · rw [h2] at hm; simp at hm
      · exact h2
theorem Inv.allW {t : Tm} (h : Inv t) : allW t.cs := cellW h.hL h.hv
theorem row_drop (L : List Cl) (C k : Nat) : rowL (L.drop C) C k = rowL L C (k + 1) := by
  unfold rowL
  rw [List.drop_drop, Nat.add_mul, Nat.one_mul, Nat.add_comm]
theorem feed_valid {L : List Cl} {R C : Nat} (hL : L.length = R * C) (hv : validL L R C = true) (hR : 1 ≤ R) : validL (L.drop C ++ List.replicate C blankC) R C = true := by
  rw [valid_rows] at hv ⊢
  intro k hk
  have hRC : (R - 1) * C + C = R * C := by
    have : (R - 1 + 1) * C = R * C := by rw [show R - 1 + 1 = R by omega]
    rw [Nat.add_mul, Nat.one_mul] at this; exact this
  have hd : (L.drop C).length = (R - 1) * C := by rw [List.length_drop, hL]; omega
  by_cases h : k + 1 < R
  · have h1 : (k + 1) * C ≤ (R - 1) * C := Nat.mul_le_mul_right C (by omega)
    have e : rowL (L.drop C ++ List.replicate C blankC) C k = rowL L C (k + 1) := by
      rw [← row_drop]
      unfold rowL
      rw [List.drop_append_of_le_length (by rw [hd]; rw [Nat.add_mul, Nat.one_mul] at h1; omega), List.take_append_of_le_length (by rw [List.length_drop, hd]; rw [Nat.add_mul, Nat.one_mul] at h1; omega)]
    rw [e]
    exact hv (k + 1) h
  · obtain rfl : k = R - 1 := by omega
    have e : rowL (L.drop C ++ List.replicate C blankC) C (R - 1) = List.replicate C blankC := by
      unfold rowL
      rw [← hd, List.drop_left, List.take_of_length_le (by simp)]
    rw [e]
    exact blank_row C
theorem Inv.feed {t : Tm} (h : Inv t) : Inv (feedM t) := by
  unfold feedM
  split
  · rename_i hlt
    exact ⟨h.hR, h.hC, h.hL, hlt, h.hcol, h.hv, h.hs⟩
  · refine ⟨h.hR, h.hC, ?_, h.hrow, h.hcol, feed_valid (R := t.rows) (C := t.cols) h.hL h.hv (Nat.le_trans (by decide) h.hR.1), h.hs⟩
    have := h.hL
    have h2 : t.cols ≤ t.rows * t.cols := Nat.le_mul_of_pos_left _ (Nat.lt_of_lt_of_le (by decide) h.hR.1)
    show (t.cs.drop t.cols ++ List.replicate t.cols blankC).length = t.rows * t.cols
    rw [List.length_append, List.length_drop, List.length_replicate]
    omega
theorem Inv.wrap {t : Tm} (h : Inv t) : Inv (wrapM t) := Inv.feed (t := { t with col := 0, waits := false }) ⟨h.hR, h.hC, h.hL, h.hrow, by have := h.hC; show 0 < t.cols; omega, h.hv, h.hs⟩
theorem Inv.lay {t : Tm} (h : Inv t) {r : Int} {m : Nat} (hm : m = 1 ∨ m = 2) (hr : cells r = m) (hc : t.col + m ≤ t.cols) : Inv (layM t r m) := by
  have hsty : styC (inkT r m t.sty) = true := h.hs
  refine ⟨h.hR, h.hC, ?_, h.hrow, ?_, ?_, h.hs⟩
  · show (layL t.cs _ m r t.sty).length = _
    rw [lay_put _ _ _ hm]
    have hl : ∀ (L : List Cl) (i : Nat) (c : Cl), (putL L i m c).length = L.length := fun L i c => by
      unfold putL
      split <;> simp [wipe_len]
    rw [hl]
    exact h.hL
  · show (if t.cols ≤ t.col + m then t.cols - 1 else t.col + m) < t.cols
    have := h.hC
    split <;> omega
  · show validL (layL t.cs _ m r t.sty) t.rows t.cols = true
    rw [lay_put _ _ _ hm]
    exact putL_valid h.hL h.hv h.hrow hm hc rfl hr hsty
theorem Inv.show {t : Tm} (h : Inv t) {r : Int} {m : Nat} (hm : m = 1 ∨ m = 2) (hr : cells r = m) : Inv (showM t r m) := by
  unfold showM
  split
  · refine Inv.lay h.wrap hm hr ?_
    have h1 : (wrapM t).col = 0 := by unfold wrapM feedM; dsimp only; split <;> rfl
    have h2 : (wrapM t).cols = t.cols := by unfold wrapM feedM; dsimp only; split <;> rfl
    have := h.hC
    rw [h1, h2]; omega
  · rename_i hw
    refine Inv.lay h hm hr ?_
    have h1 := h.hcol
    rcases hm with rfl | rfl
    · omega
    · unfold wrapsB at hw
      simp at hw
      have := hw.2
      omega
theorem Inv.wipe {t : Tm} (h : Inv t) (i k : Nat) (hk : i + k ≤ t.rows * t.cols) : Inv (wipeT t i k) :=
  ⟨h.hR, h.hC, by show (wipeN t.cs i k).length = _; rw [wipeN_len]; exact h.hL, h.hrow, h.hcol, wipeN_valid h.hL h.hv i k hk, h.hs⟩
theorem at_lt {t : Tm} (h : Inv t) : t.row * t.cols + t.col < t.rows * t.cols := by
  have h1 : (t.row + 1) * t.cols ≤ t.rows * t.cols := Nat.mul_le_mul_right _ h.hrow
  rw [Nat.add_mul, Nat.one_mul] at h1
  have := h.hcol
  omega
theorem Inv.clear {t : Tm} (h : Inv t) (n : Int) (f q : Nat) (hf : f ≤ q) (hq : q ≤ t.rows * t.cols) : Inv (clearM t n f q) := by
  have ha := at_lt h
  unfold clearM
  dsimp only
  split
  · refine h.wipe _ _ ?_
    omega
  split
  · refine h.wipe _ _ ?_
    omega
  split
  · refine h.wipe _ _ ?_
    omega
  · exact h
theorem look_sty {s : Cl} (h : styC s = true) (n : Int) : styC (lookS s n) = true := by
  unfold styC at h ⊢
  simp at h ⊢
  unfold lookS
  split
  · exact ⟨Int.le_refl 0, by show (0 : Int) ≤ 8; decide⟩
  split
  · exact h
  split
  · exact h
  split
  · exact h
  split
  · dsimp only; omega
  split
  · exact ⟨Int.le_refl 0, by show (0 : Int) ≤ 8; decide⟩
  · exact h
theorem Inv.look {t : Tm} (h : Inv t) (l : List Int) : Inv (lookM t l) := by
  refine ⟨h.hR, h.hC, h.hL, h.hrow, h.hcol, h.hv, ?_⟩
  show styC ((nzL l).foldl lookS t.sty) = true
  have key : ∀ (l : List Int) (s : Cl), styC s = true → styC (l.foldl lookS s) = true := fun l => by
    induction l with
    | nil => exact fun s h => h
    | cons x l ih => exact fun s h => ih _ (look_sty h x)
  exact key _ _ h.hs
theorem Inv.waits {t : Tm} (h : Inv t) (b : Bool) : Inv { t with waits := b } := ⟨h.hR, h.hC, h.hL, h.hrow, h.hcol, h.hv, h.hs⟩
theorem Inv.seq {t : Tm} (h : Inv t) (l : List Int) (fin : Int) : Inv (seqM t l fin) := by
  have hR := h.hR
  have hC := h.hC
  have c1 := fun n => clip_lt (n := n) (many := t.rows) (by omega)
  have c2 := fun n => clip_lt (n := n) (many := t.cols) (by omega)
  have hrow : ∀ n, clipN n t.rows < t.rows := fun n => by have := c1 n; omega
  have hcol : ∀ n, clipN n t.cols < t.cols := fun n => by have := c2 n; omega
  unfold seqM
  dsimp only
  split
  · exact ⟨h.hR, h.hC, h.hL, hrow _, h.hcol, h.hv, h.hs⟩
  split
  · exact ⟨h.hR, h.hC, h.hL, hrow _, h.hcol, h.hv, h.hs⟩
  split
  · exact ⟨h.hR, h.hC, h.hL, h.hrow, hcol _, h.hv, h.hs⟩
  split
  · exact ⟨h.hR, h.hC, h.hL, h.hrow, hcol _, h.hv, h.hs⟩
  split
  · exact ⟨h.hR, h.hC, h.hL, hrow _, hcol _, h.hv, h.hs⟩
  split
  · refine Inv.waits (h.clear _ _ _ (by omega) ?_) false
    have h1 : (t.row + 1) * t.cols ≤ t.rows * t.cols := Nat.mul_le_mul_right _ h.hrow
    rw [Nat.add_mul, Nat.one_mul] at h1
    exact h1
  split
  · exact Inv.waits (h.clear _ _ _ (by omega) (by rw [h.hL]; exact Nat.le_refl _)) false
  split
  · exact h.look l
  · exact h
/-- A control character. -/
def ctlM (t : Tm) (r : Int) : Tm :=
  if r = 7 then { t with bells := t.bells + 1 }
  else if r = 13 then { t with col := 0, waits := false }
  else if r = 8 then { t with col := t.col - 1, waits := false }
  else if r = 10 then { feedM t with waits := false }
  else t
theorem Inv.ctl {t : Tm} (h : Inv t) (r : Int) : Inv (ctlM t r) := by
  unfold ctlM
  split
  · exact ⟨h.hR, h.hC, h.hL, h.hrow, h.hcol, h.hv, h.hs⟩
  split
  · exact ⟨h.hR, h.hC, h.hL, h.hrow, by have := h.hC; show 0 < t.cols; omega, h.hv, h.hs⟩
  split
  · exact ⟨h.hR, h.hC, h.hL, h.hrow, by have := h.hcol; show t.col - 1 < t.cols; omega, h.hv, h.hs⟩
  split
  · exact Inv.waits h.feed false
  · exact h
end Go.Proofs.YtmemdhmjhckmaaaDoor
