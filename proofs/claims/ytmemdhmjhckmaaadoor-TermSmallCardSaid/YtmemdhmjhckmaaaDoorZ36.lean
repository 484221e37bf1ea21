/- The document's terminal: number, within, look. The document's terminal: helpers for its control sequences. The document's terminal: control sequences. -/
import Derived.Test.YtmemdhmjhckmaaaDoorZ31
import Derived.Test.YtmemdhmjhckmaaaDoorZ19
import Derived.Test.YtmemdhmjhckmaaaDoorZ35
import Derived.Deep.RegionHeld3
namespace Go.Proofs.YtmemdhmjhckmaaaDoor
open Go.RowKit
set_option maxRecDepth 100000

theorem rnum_any (pv : Value) (l : List Int) (i : Nat) (w : World) (hv : NumsV w pv l) (hl : l.length ≤ 100000) (hi : i ≤ 1) :
    Calls Tryd.prog 64 #[pv, .int .i64 (i : Int)] w fun e w' => e = .returned (.int .i64 (l.getD i 0)) ∧ w = w' := by
  obtain ⟨A, c, rfl, hc⟩ := hv
  by_cases hlt : i < l.length
  · obtain ⟨x, hx⟩ : ∃ x, l[i]? = some x := ⟨_, List.getElem?_eq_getElem hlt⟩
    obtain ⟨b, o, rfl, -, h1⟩ := hc i x hx
    have hi2 : ¬ (l.length : Int) ≤ (i : Int) := by omega
    have hi3 : (i : Int) < (l.length : Int) := by omega
    have HX := hide (show l.getD i 0 = x by rw [List.getD_eq_getElem?_getD, hx]; rfl)
    obtain ⟨n, hn⟩ : ∃ n, l.length = n := ⟨_, rfl⟩
    rw [hn] at hi2 hi3 hlt hl ⊢
    clear hc hx hn
    go_enter Tryd.func64, Tryd.ntmps64
    go_wp2
    go_ret
    exact ⟨by (first | rw [HX.out] | (have h := HX.out; rw [List.getD_eq_getElem?_getD] at h; rw [h])); rfl, rfl⟩
  · have hi2 : (l.length : Int) ≤ (i : Int) := by omega
    have HX := hide (show l.getD i 0 = 0 by rw [List.getD_eq_getElem?_getD, List.getElem?_eq_none (by omega)]; rfl)
    obtain ⟨n, hn⟩ : ∃ n, l.length = n := ⟨_, rfl⟩
    rw [hn] at hi2 hlt hl ⊢
    clear hc hn
    go_enter Tryd.func64, Tryd.ntmps64
    go_wp2
    go_ret
    exact ⟨by (first | rw [HX.out] | (have h := HX.out; rw [List.getD_eq_getElem?_getD] at h; rw [h])); rfl, rfl⟩
theorem rwithin_any (n many : Int) (w : World) (hn : -1000000 ≤ n ∧ n ≤ 1000000) (hm : 1 ≤ many ∧ many ≤ 1000000) : Calls Tryd.prog 65 #[.int .i64 n, .int .i64 many] w fun e w' => e = .returned (.int .i64 (clipN n many : Int)) ∧ w = w' := by
  have hc := hide (show max 0 (min n (many - 1)) = (clipN n many : Int) by unfold clipN; omega)
  have h1 := hn.1
  have h2 := hn.2
  have h3 := hm.1
  have h4 := hm.2
  clear hn hm
  go_enter Tryd.func65, Tryd.ntmps65
  go_wp2
  go_ret
  exact ⟨by rw [← hc.out]; rfl, rfl⟩
def styV (s : Cl) : Value := .agg #[.int .i64 s.fg, .bool s.bo, .bool s.un, .bool s.iv]
/-- The style's box, and the answer's. -/
theorem sty_new (w : World) (fg : Int) (bo un iv : Bool) : Blk ((w.alloc (.cells (styCells fg bo un iv).toArray 38)).alloc (.cells (styCells 0 false false false).toArray 38)) w.heap.size 38 (styCells fg bo un iv) ∧ Blk ((w.alloc (.cells (styCells fg bo un iv).toArray 38)).alloc (.cells (styCells 0 false false false).toArray 38)) (w.heap.size + 1) 38 (styCells 0 false false false) := by
  have h1 := Blk.new (w.alloc (.cells (styCells fg bo un iv).toArray 38)) 38 (styCells 0 false false false)
  rw [World.size_alloc] at h1
  exact ⟨(Blk.new w _ _).alloc _, h1⟩
theorem sty_two (w : World) (fg : Int) (bo un iv : Bool) (fg' : Int) (bo' un' iv' : Bool) :
    ((w.alloc (.cells #[.int .i64 fg, .bool bo, .bool un, .bool iv] 38)).alloc (.cells #[.int .i64 fg', .bool bo', .bool un', .bool iv'] 38)).heap[w.heap.size + 1]? = some (.cells #[.int .i64 fg', .bool bo', .bool un', .bool iv'] 38 (0, 0)) ∧
    Below w.heap.size w ((w.alloc (.cells #[.int .i64 fg, .bool bo, .bool un, .bool iv] 38)).alloc (.cells #[.int .i64 fg', .bool bo', .bool un', .bool iv'] 38)) := by
  have h1 := Blk.new (w.alloc (.cells #[.int .i64 fg, .bool bo, .bool un, .bool iv] 38)) 38 (styCells fg' bo' un' iv')
  rw [World.size_alloc] at h1
  exact ⟨h1, ((Below.refl _ _).alloc (Nat.le_refl _) _).alloc (by simp) _⟩
set_option maxHeartbeats 4000000 in
theorem rlook_any (s : Cl) (n : Int) (w : World) : Calls Tryd.prog 67 #[.agg #[.int .i64 s.fg, .bool s.bo, .bool s.un, .bool s.iv], .int .i64 n] w fun e w' => e = .returned (styV (lookS s n)) ∧ Below w.heap.size w w' := by
  obtain ⟨sr, sw, fg, bo, un, iv⟩ := s
  obtain ⟨hb1, hb2⟩ := sty_new w fg bo un iv
  have HB1 := hide hb1
  have HB2 := hide hb2
  have HBB := hide (show Below w.heap.size w ((w.alloc (.cells (styCells fg bo un iv).toArray 38)).alloc (.cells (styCells 0 false false false).toArray 38)) from ((Below.refl _ _).alloc (Nat.le_refl _) _).alloc (by simp) _)
  clear hb1 hb2
  by_cases h0 : n = 0
  · subst h0
    rw [show lookS ⟨sr, sw, fg, bo, un, iv⟩ 0 = ⟨sr, sw, 0, false, false, false⟩ by rfl]
    go_enter Tryd.func67, Tryd.ntmps67
    go_wp2
    exact bodyPost_ret (results_cell_row rfl _ _ (w.heap.size + 1) 38 #[.int .i64 0, .bool false, .bool false, .bool false] (0, 0) _ rfl (sty_two w fg bo un iv 0 false false false).1 Tryd.underlying38 rfl (by kernel_rfl)) rfl ⟨rfl, (sty_two w fg bo un iv 0 false false false).2⟩
  by_cases h1 : n = 1
  · subst h1
    rw [show lookS ⟨sr, sw, fg, bo, un, iv⟩ 1 = ⟨sr, sw, fg, true, un, iv⟩ by rfl]
    go_enter Tryd.func67, Tryd.ntmps67
    go_wp2
    exact bodyPost_ret (results_cell_row rfl _ _ (w.heap.size + 1) 38 #[.int .i64 fg, .bool true, .bool un, .bool iv] (0, 0) _ rfl (sty_two w fg true un iv fg true un iv).1 Tryd.underlying38 rfl (by kernel_rfl)) rfl ⟨rfl, (sty_two w fg true un iv fg true un iv).2⟩
  by_cases h22 : n = 22
  · subst h22
    rw [show lookS ⟨sr, sw, fg, bo, un, iv⟩ 22 = ⟨sr, sw, fg, false, un, iv⟩ by rfl]
    go_enter Tryd.func67, Tryd.ntmps67
    go_wp2
    exact bodyPost_ret (results_cell_row rfl _ _ (w.heap.size + 1) 38 #[.int .i64 fg, .bool false, .bool un, .bool iv] (0, 0) _ rfl (sty_two w fg false un iv fg false un iv).1 Tryd.underlying38 rfl (by kernel_rfl)) rfl ⟨rfl, (sty_two w fg false un iv fg false un iv).2⟩
  by_cases h4 : n = 4
  · subst h4
    rw [show lookS ⟨sr, sw, fg, bo, un, iv⟩ 4 = ⟨sr, sw, fg, bo, true, iv⟩ by rfl]
    go_enter Tryd.func67, Tryd.ntmps67
    go_wp2
    exact bodyPost_ret (results_cell_row rfl _ _ (w.heap.size + 1) 38 #[.int .i64 fg, .bool bo, .bool true, .bool iv] (0, 0) _ rfl (sty_two w fg bo true iv fg bo true iv).1 Tryd.underlying38 rfl (by kernel_rfl)) rfl ⟨rfl, (sty_two w fg bo true iv fg bo true iv).2⟩
  by_cases h24 : n = 24
  · subst h24
    rw [show lookS ⟨sr, sw, fg, bo, un, iv⟩ 24 = ⟨sr, sw, fg, bo, false, iv⟩ by rfl]
    go_enter Tryd.func67, Tryd.ntmps67
    go_wp2
    exact bodyPost_ret (results_cell_row rfl _ _ (w.heap.size + 1) 38 #[.int .i64 fg, .bool bo, .bool false, .bool iv] (0, 0) _ rfl (sty_two w fg bo false iv fg bo false iv).1 Tryd.underlying38 rfl (by kernel_rfl)) rfl ⟨rfl, (sty_two w fg bo false iv fg bo false iv).2⟩
  by_cases h7 : n = 7
  · subst h7
    rw [show lookS ⟨sr, sw, fg, bo, un, iv⟩ 7 = ⟨sr, sw, fg, bo, un, true⟩ by rfl]
    go_enter Tryd.func67, Tryd.ntmps67
    go_wp2
    exact bodyPost_ret (results_cell_row rfl _ _ (w.heap.size + 1) 38 #[.int .i64 fg, .bool bo, .bool un, .bool true] (0, 0) _ rfl (sty_two w fg bo un true fg bo un true).1 Tryd.underlying38 rfl (by kernel_rfl)) rfl ⟨rfl, (sty_two w fg bo un true fg bo un true).2⟩
  by_cases h27 : n = 27
  · subst h27
    rw [show lookS ⟨sr, sw, fg, bo, un, iv⟩ 27 = ⟨sr, sw, fg, bo, un, false⟩ by rfl]
    go_enter Tryd.func67, Tryd.ntmps67
    go_wp2
    exact bodyPost_ret (results_cell_row rfl _ _ (w.heap.size + 1) 38 #[.int .i64 fg, .bool bo, .bool un, .bool false] (0, 0) _ rfl (sty_two w fg bo un false fg bo un false).1 Tryd.underlying38 rfl (by kernel_rfl)) rfl ⟨rfl, (sty_two w fg bo un false fg bo un false).2⟩
  by_cases h30 : n = 30
  · subst h30
    rw [show lookS ⟨sr, sw, fg, bo, un, iv⟩ 30 = ⟨sr, sw, 1, bo, un, iv⟩ by rfl]
    go_enter Tryd.func67, Tryd.ntmps67
    go_wp2
    exact bodyPost_ret (results_cell_row rfl _ _ (w.heap.size + 1) 38 #[.int .i64 1, .bool bo, .bool un, .bool iv] (0, 0) _ rfl (sty_two w 1 bo un iv 1 bo un iv).1 Tryd.underlying38 rfl (by kernel_rfl)) rfl ⟨rfl, (sty_two w 1 bo un iv 1 bo un iv).2⟩
  by_cases h31 : n = 31
  · subst h31
    rw [show lookS ⟨sr, sw, fg, bo, un, iv⟩ 31 = ⟨sr, sw, 2, bo, un, iv⟩ by rfl]
    go_enter Tryd.func67, Tryd.ntmps67
    go_wp2
    exact bodyPost_ret (results_cell_row rfl _ _ (w.heap.size + 1) 38 #[.int .i64 2, .bool bo, .bool un, .bool iv] (0, 0) _ rfl (sty_two w 2 bo un iv 2 bo un iv).1 Tryd.underlying38 rfl (by kernel_rfl)) rfl ⟨rfl, (sty_two w 2 bo un iv 2 bo un iv).2⟩
  by_cases h32 : n = 32
  · subst h32
    rw [show lookS ⟨sr, sw, fg, bo, un, iv⟩ 32 = ⟨sr, sw, 3, bo, un, iv⟩ by rfl]
    go_enter Tryd.func67, Tryd.ntmps67
    go_wp2
    exact bodyPost_ret (results_cell_row rfl _ _ (w.heap.size + 1) 38 #[.int .i64 3, .bool bo, .bool un, .bool iv] (0, 0) _ rfl (sty_two w 3 bo un iv 3 bo un iv).1 Tryd.underlying38 rfl (by kernel_rfl)) rfl ⟨rfl, (sty_two w 3 bo un iv 3 bo un iv).2⟩
  by_cases h33 : n = 33
  · subst h33
    rw [show lookS ⟨sr, sw, fg, bo, un, iv⟩ 33 = ⟨sr, sw, 4, bo, un, iv⟩ by rfl]
    go_enter Tryd.func67, Tryd.ntmps67
    go_wp2
    exact bodyPost_ret (results_cell_row rfl _ _ (w.heap.size + 1) 38 #[.int .i64 4, .bool bo, .bool un, .bool iv] (0, 0) _ rfl (sty_two w 4 bo un iv 4 bo un iv).1 Tryd.underlying38 rfl (by kernel_rfl)) rfl ⟨rfl, (sty_two w 4 bo un iv 4 bo un iv).2⟩
  by_cases h34 : n = 34
  · subst h34
    rw [show lookS ⟨sr, sw, fg, bo, un, iv⟩ 34 = ⟨sr, sw, 5, bo, un, iv⟩ by rfl]
    go_enter Tryd.func67, Tryd.ntmps67
    go_wp2
    exact bodyPost_ret (results_cell_row rfl _ _ (w.heap.size + 1) 38 #[.int .i64 5, .bool bo, .bool un, .bool iv] (0, 0) _ rfl (sty_two w 5 bo un iv 5 bo un iv).1 Tryd.underlying38 rfl (by kernel_rfl)) rfl ⟨rfl, (sty_two w 5 bo un iv 5 bo un iv).2⟩
  by_cases h35 : n = 35
  · subst h35
    rw [show lookS ⟨sr, sw, fg, bo, un, iv⟩ 35 = ⟨sr, sw, 6, bo, un, iv⟩ by rfl]
    go_enter Tryd.func67, Tryd.ntmps67
    go_wp2
    exact bodyPost_ret (results_cell_row rfl _ _ (w.heap.size + 1) 38 #[.int .i64 6, .bool bo, .bool un, .bool iv] (0, 0) _ rfl (sty_two w 6 bo un iv 6 bo un iv).1 Tryd.underlying38 rfl (by kernel_rfl)) rfl ⟨rfl, (sty_two w 6 bo un iv 6 bo un iv).2⟩
  by_cases h36 : n = 36
  · subst h36
    rw [show lookS ⟨sr, sw, fg, bo, un, iv⟩ 36 = ⟨sr, sw, 7, bo, un, iv⟩ by rfl]
    go_enter Tryd.func67, Tryd.ntmps67
    go_wp2
    exact bodyPost_ret (results_cell_row rfl _ _ (w.heap.size + 1) 38 #[.int .i64 7, .bool bo, .bool un, .bool iv] (0, 0) _ rfl (sty_two w 7 bo un iv 7 bo un iv).1 Tryd.underlying38 rfl (by kernel_rfl)) rfl ⟨rfl, (sty_two w 7 bo un iv 7 bo un iv).2⟩
  by_cases h37 : n = 37
  · subst h37
    rw [show lookS ⟨sr, sw, fg, bo, un, iv⟩ 37 = ⟨sr, sw, 8, bo, un, iv⟩ by rfl]
    go_enter Tryd.func67, Tryd.ntmps67
    go_wp2
    exact bodyPost_ret (results_cell_row rfl _ _ (w.heap.size + 1) 38 #[.int .i64 8, .bool bo, .bool un, .bool iv] (0, 0) _ rfl (sty_two w 8 bo un iv 8 bo un iv).1 Tryd.underlying38 rfl (by kernel_rfl)) rfl ⟨rfl, (sty_two w 8 bo un iv 8 bo un iv).2⟩
  by_cases h39 : n = 39
  · subst h39
    rw [show lookS ⟨sr, sw, fg, bo, un, iv⟩ 39 = ⟨sr, sw, 0, bo, un, iv⟩ by rfl]
    go_enter Tryd.func67, Tryd.ntmps67
    go_wp2
    exact bodyPost_ret (results_cell_row rfl _ _ (w.heap.size + 1) 38 #[.int .i64 0, .bool bo, .bool un, .bool iv] (0, 0) _ rfl (sty_two w 0 bo un iv 0 bo un iv).1 Tryd.underlying38 rfl (by kernel_rfl)) rfl ⟨rfl, (sty_two w 0 bo un iv 0 bo un iv).2⟩
  have HL := hide (show lookS ⟨sr, sw, fg, bo, un, iv⟩ n = ⟨sr, sw, fg, bo, un, iv⟩ by unfold lookS; rw [if_neg h0, if_neg (by omega), if_neg (by omega), if_neg (by omega), if_neg (by omega), if_neg h39])
  rw [HL.out]
  have b0 : (n == 0) = false := by simpa using h0
  have b1 : (n == 1) = false := by simpa using h1
  have b22 : (n == 22) = false := by simpa using h22
  have b4 : (n == 4) = false := by simpa using h4
  have b24 : (n == 24) = false := by simpa using h24
  have b7 : (n == 7) = false := by simpa using h7
  have b27 : (n == 27) = false := by simpa using h27
  have b30 : (n == 30) = false := by simpa using h30
  have b31 : (n == 31) = false := by simpa using h31
  have b32 : (n == 32) = false := by simpa using h32
  have b33 : (n == 33) = false := by simpa using h33
  have b34 : (n == 34) = false := by simpa using h34
  have b35 : (n == 35) = false := by simpa using h35
  have b36 : (n == 36) = false := by simpa using h36
  have b37 : (n == 37) = false := by simpa using h37
  have b39 : (n == 39) = false := by simpa using h39
  clear h0 h1 h22 h4 h24 h7 h27 h30 h31 h32 h33 h34 h35 h36 h37 h39
  go_enter Tryd.func67, Tryd.ntmps67
  go_wp2
  exact bodyPost_ret (results_cell_row rfl _ _ (w.heap.size + 1) 38 #[.int .i64 fg, .bool bo, .bool un, .bool iv] (0, 0) _ rfl (sty_two w fg bo un iv fg bo un iv).1 Tryd.underlying38 rfl (by kernel_rfl)) rfl ⟨rfl, (sty_two w fg bo un iv fg bo un iv).2⟩
end Go.Proofs.YtmemdhmjhckmaaaDoor
namespace Go.Proofs.YtmemdhmjhckmaaaDoor
open Go.RowKit
set_option maxRecDepth 100000

theorem rerase_i {w0 W : World} {z g cap : Nat} (t : Tm) (h : TrB w0 W z g cap t) (hI : Inv t) (f q : Nat) (hfq : f ≤ q) (hq : q ≤ t.rows * t.cols) (x y : Int) (hx : x = (f : Int)) (hy : y = (q : Int)) {t' : Tm} (ht : wipeT t f (q - f) = t') :
    Calls Tryd.prog 66 #[.pointer (some ⟨z, 0, none⟩), .int .i64 x, .int .i64 y] W (Mr w0 W z g t') := by
  subst hx hy ht
  exact rerase_any t h hI f q hfq hq
theorem TrB.numNe {w0 W : World} {z g cap b : Nat} {t : Tm} (hm : TrB w0 W z g cap t) (hb : TyA W b 3) : b ≠ z ∧ b ≠ g := by
  obtain ⟨cs, f, hb⟩ := hb
  constructor
  · rintro rfl
    have := hm.b
    unfold Blk at this
    rw [hb] at this
    injection this with this
    injection this with _ e2 _
    exact absurd e2 (by decide)
  · rintro rfl
    rcases hm.own.2 with ⟨e, -⟩ | ⟨g', cap', cur, e, -, hh, -⟩
    · cases e
    · injection e with e1 e2 e3
      injection e1 with e1; injection e1 with e1 e1'; subst e1
      rw [hb] at hh
      injection hh with hh
      injection hh with _ e2 _
      exact absurd e2 (by decide)
theorem NumsV.k2R {w0 W V : World} {z g cap : Nat} {t : Tm} {v : Value} {l : List Int} (h : NumsV W v l) (hm : TrB w0 W z g cap t) (hk : K2 z g W V) : NumsV V v l := by
  obtain ⟨A, c, e, hc⟩ := h
  refine ⟨A, c, e, fun j x hx => ?_⟩
  obtain ⟨b, o, ea, hT, hx⟩ := hc j x hx
  obtain ⟨hbz, hbg⟩ := hm.numNe hT
  obtain ⟨cs, f, hb⟩ := hT
  have hblk := hk.block b (Array.getElem?_eq_some_iff.1 hb).1 hbz hbg
  exact ⟨b, o, ea, ⟨cs, f, hblk.trans hb⟩, (World.cell?_of_block hblk).trans hx⟩
/-- A number's cell, in the world where the slice is known. -/
theorem NumsV.cellAt {V : World} {b o n c : Nat} {l : List Int} (h : NumsV V (.slice (some ⟨b, o, none⟩) n c) l) {k : Nat} {x : Int} (hx : l[k]? = some x) : V.cell? ⟨b, o + k, none⟩ = some (.int .i64 x) := by
  obtain ⟨A, cap, e, hc⟩ := h
  obtain ⟨b', o', ea, -, h1⟩ := hc k x hx
  injection e with e1 e2 e3
  rw [ea] at e1
  injection e1 with e1
  injection e1 with e1 e2
  subst e1 e2
  exact h1
theorem lookS_rw (s : Cl) (x : Int) : (lookS s x).r = s.r ∧ (lookS s x).w = s.w := by
  unfold lookS
  (repeat' split) <;> exact ⟨rfl, rfl⟩
end Go.Proofs.YtmemdhmjhckmaaaDoor
namespace Go.Proofs.YtmemdhmjhckmaaaDoor
open Go.RowKit
set_option maxRecDepth 100000

set_option maxHeartbeats 8000000 in
theorem rtseq_f65 {w0 W : World} {z g cap : Nat} (t : Tm) (h : TrB w0 W z g cap t) (hI : Inv t) (fin : Int) (pv : Value) (l : List Int) (hv : NumsV W pv l) (hl : l.length ≤ 100000) (h9 : ∀ x ∈ l, 0 ≤ x ∧ x ≤ 9999) (hf : fin = 65) :
    Calls Tryd.prog 35 #[.pointer (some ⟨z, 0, none⟩), pv, .int .u8 fin] W (Mr w0 W z g (seqM t l fin)) := by
  have HIV := hide hI
  have hIR := hI.hR
  have hIC := hI.hC
  have hIL := hI.hL
  have hrw := hI.hrow
  have hcl := hI.hcol
  obtain ⟨R, C, cs, row, col, p, s, wt, bl⟩ := t
  dsimp only at hIR hIC hIL hrw hcl
  obtain ⟨A, c, rfl⟩ := hv.form
  have HSQ := hide (show seqM ⟨R, C, cs, row, col, p, s, wt, bl⟩ l fin = ⟨R, C, cs, clipN ((row : Int) - max (l.getD 0 0) 1) R, col, p, s, false, bl⟩ from by subst hf; rfl)
  subst hf
  have h90 := getD_bd h9 0
  have h91 := getD_bd h9 1
  have HNU := hide hv
  have HN0 := hide (fun V (hb : Below W.heap.size W V) => (show Calls Tryd.prog 64 #[.slice A l.length c, .int .i64 0] V fun e w' => e = .returned (.int .i64 (l.getD 0 0)) ∧ V = w' from rnum_any (.slice A l.length c) l 0 V (hv.below hb) hl (by omega)))
  have HN1 := hide (fun V (hb : Below W.heap.size W V) => (show Calls Tryd.prog 64 #[.slice A l.length c, .int .i64 1] V fun e w' => e = .returned (.int .i64 (l.getD 1 0)) ∧ V = w' from rnum_any (.slice A l.length c) l 1 V (hv.below hb) hl (by omega)))
  obtain ⟨nn, hnn⟩ : ∃ x, R * C = x := ⟨_, rfl⟩
  have hn2 : nn ≤ 20000 := by rw [← hnn]; exact Nat.le_trans (Nat.mul_le_mul hIR.2 hIC.2) (by decide)
  have hat := at_lt hI
  dsimp only at hat
  obtain ⟨rc, hrc⟩ : ∃ x, row * C = x := ⟨_, rfl⟩
  obtain ⟨at_, hat_⟩ : ∃ x, rc + col = x := ⟨_, rfl⟩
  have hrcC : rc + C ≤ nn := by
    rw [← hrc, ← hnn]
    have : (row + 1) * C ≤ R * C := Nat.mul_le_mul_right C hrw
    rw [Nat.add_mul, Nat.one_mul] at this; exact this
  rw [hrc, hat_, hnn] at hat
  rw [hnn] at hIL
  (try rw [hrc] at HSQ)
  (try rw [hat_] at HSQ)
  have hw1 : IntKind.i64.wrap ((row : Int) * (C : Int)) = (rc : Int) := by
    rw [show (row : Int) * (C : Int) = (rc : Int) by rw [← hrc]; push_cast; rfl]
    exact Go.wrap_small _ (by omega) (by omega)
  have hw2 : IntKind.i64.wrap ((rc : Int) + (col : Int)) = (at_ : Int) := (Go.wrap_small _ (by omega) (by omega)).trans (by omega)
  obtain ⟨n, hn⟩ : ∃ n, l.getD 0 0 = n := ⟨_, rfl⟩
  obtain ⟨n1, hn1⟩ : ∃ n, l.getD 1 0 = n := ⟨_, rfl⟩
  rw [hn] at h90 HN0
  (try rw [hn] at HSQ)
  rw [hn1] at h91 HN1
  (try rw [hn1] at HSQ)
  obtain ⟨m, hm⟩ : ∃ m, max n 1 = m := ⟨_, rfl⟩
  have hmb := max_one h90
  rw [hm] at hmb
  (try rw [hm] at HSQ)
  have HHM := hide hm
  have HAT := hide hat_
  have HRC := hide hrc
  have HRCC := hide hrcC
  have HATN := hide hat
  obtain ⟨c0, c1, c2, c3, c4, c5, c6, c7, c8, c9, c10, c11⟩ := h.reads
  rw [hIL] at c2
  have bf := fun i => h.b.frozen i
  have HLN := hide hIL
  have H := hide h
  have HMB := hide hmb
  have H90 := hide h90
  have H91 := hide h91
  clear h hI hv hn hn1 hnn hrc hat_ hrcC hat hmb h91 hn2 hIL
  obtain ⟨len, hlen⟩ : ∃ q, l.length = q := ⟨_, rfl⟩
  rw [hlen] at HNU HN0 HN1 hl ⊢
  have HLEN := hide hlen
  clear hlen
  cases wt
  · go_enter Tryd.func35, Tryd.ntmps35
    go_wp2_with fail
    refine (HN0.out _ (Below.refl _ _)).mono ?_; rintro e w1 ⟨rfl, rfl⟩
    go_wp2_with fail
    (try rw [hm])
    go_region
    go_wp2_with fail
    obtain ⟨U, hU, HU, KU⟩ := named (R := fun V => TrB w0 V z g cap ⟨R, C, cs, row, col, p, s, false, bl⟩ ∧ K2 z g W V) ⟨(H.out.setZ ⟨R, C, cs, row, col, p, s, false, bl⟩ 10 (.bool false) rfl rfl).low (Below.refl _ _).drew, (K2.set _ _ _ _ _).trans K2.drew⟩
    rw [hU]
    have HU := hide HU
    have KU := hide KU
    clear hU H c0 c1 c2 c3 c4 c5 c6 c7 c8 c9 c10 c11 bf
    obtain ⟨c0, c1, -, c3, c4, -⟩ := HU.out.reads
    have bf := fun i => HU.out.b.frozen i
    obtain ⟨m1, m2⟩ := HMB.out
    have HCL := hide (fun (w : World) => rwithin_any ((row : Int) - m) (R : Int) w (by omega) (by omega))
    obtain ⟨q, hq⟩ : ∃ q, clipN ((row : Int) - m) (R : Int) = q := ⟨_, rfl⟩
    rw [hq] at HCL HSQ
    clear hq
    obtain ⟨vv, hvv⟩ : ∃ v, ((row : Int) - m) = v := ⟨_, rfl⟩
    have hwr : IntKind.i64.wrap ((row : Int) - m) = vv := by simp only [IntKind.wrap_i64]; omega
    rw [hvv] at HCL
    clear hvv
    refine wp_region_held_drew (S := (fun V => V.cell? ⟨z, 0, none⟩ = some (.int .i64 (R : Int)))) (by kernel_rfl) ?_ (fun hHeld => ?_)
    · exact c0
    refine wpAnyH_at (i := 0) (v := ?va0) (d := 81) rfl rfl (by kernel_rfl) (by kernel_rfl) (by kernel_rfl) (fun _ _ _ h => h) (Or.inl ⟨by rfl, fun w' hSw => ?hya0⟩) (by assumption) ?resta0
    case hya0 =>
      (try dsimp only at hSw)
      go_simp
      (try with_reducible rfl)
    (try simp only [Act.put, List.setIfInBounds_toArray, List.set_cons_zero, List.set_cons_succ])
    refine wpAnyH_at (i := 1) (v := ?va1) (d := 82) rfl rfl (by kernel_rfl) (by kernel_rfl) (by kernel_rfl) (fun _ _ _ h => h) (Or.inl ⟨by rfl, fun w' hSw => ?hya1⟩) (by assumption) ?resta1
    case hya1 =>
      (try dsimp only at hSw)
      go_simp
      (try with_reducible rfl)
    (try simp only [Act.put, List.setIfInBounds_toArray, List.set_cons_zero, List.set_cons_succ])
    refine wpAnyH_at (i := 2) (v := ?va2) (d := 83) rfl rfl (by kernel_rfl) (by kernel_rfl) (by kernel_rfl) (fun _ _ _ h => h) (Or.inl ⟨by rfl, fun w' hSw => ?hya2⟩) (by assumption) ?resta2
    case hya2 =>
      (try dsimp only at hSw)
      go_simp
      (try with_reducible rfl)
    (try simp only [Act.put, List.setIfInBounds_toArray, List.set_cons_zero, List.set_cons_succ])
    refine wpAnyH_at (i := 3) (v := ?va3) (d := 84) rfl rfl (by kernel_rfl) (by kernel_rfl) (by kernel_rfl) (fun _ _ _ h => h) (Or.inl ⟨by rfl, fun w' hSw => ?hya3⟩) (by assumption) ?resta3
    case hya3 =>
      (try dsimp only at hSw)
      go_simp
      (try with_reducible rfl)
    (try simp only [Act.put, List.setIfInBounds_toArray, List.set_cons_zero, List.set_cons_succ])
    refine wpAnyH_at (i := 4) (v := ?va4) (d := 85) rfl rfl (by kernel_rfl) (by kernel_rfl) (by kernel_rfl) (fun _ _ _ h => h) (Or.inl ⟨by rfl, fun w' hSw => ?hya4⟩) (by assumption) ?resta4
    case hya4 =>
      (try dsimp only at hSw)
      go_simp
      (try with_reducible rfl)
    (try simp only [Act.put, List.setIfInBounds_toArray, List.set_cons_zero, List.set_cons_succ])
    refine wpAnyH_at (i := 6) (v := ?va6) (d := 87) rfl rfl (by kernel_rfl) (by kernel_rfl) (by kernel_rfl) (fun _ _ _ h => h) (Or.inl ⟨by rfl, fun w' hSw => ?hya6⟩) (by assumption) ?resta6
    case hya6 =>
      (try dsimp only at hSw)
      go_simp
      (try with_reducible rfl)
    (try simp only [Act.put, List.setIfInBounds_toArray, List.set_cons_zero, List.set_cons_succ])
    refine wpAnyH_at (i := 8) (v := ?va8) (d := 89) rfl rfl (by kernel_rfl) (by kernel_rfl) (by kernel_rfl) (fun _ _ _ h => h) (Or.inl ⟨by rfl, fun w' hSw => ?hya8⟩) (by assumption) ?resta8
    case hya8 =>
      (try dsimp only at hSw)
      go_simp
      (try with_reducible rfl)
    (try simp only [Act.put, List.setIfInBounds_toArray, List.set_cons_zero, List.set_cons_succ])
    refine wpAnyH_at (i := 9) (v := ?va9) (d := 90) rfl rfl (by kernel_rfl) (by kernel_rfl) (by kernel_rfl) (fun _ _ _ h => h) (Or.inl ⟨by rfl, fun w' hSw => ?hya9⟩) (by assumption) ?resta9
    case hya9 =>
      (try dsimp only at hSw)
      go_simp
      (try with_reducible rfl)
    (try simp only [Act.put, List.setIfInBounds_toArray, List.set_cons_zero, List.set_cons_succ])
    refine wpAnyH_at (i := 10) (v := ?va10) (d := 91) rfl rfl (by kernel_rfl) (by kernel_rfl) (by kernel_rfl) (fun _ _ _ h => h) (Or.inl ⟨by rfl, fun w' hSw => ?hya10⟩) (by assumption) ?resta10
    case hya10 =>
      (try dsimp only at hSw)
      go_simp
      (try with_reducible rfl)
    (try simp only [Act.put, List.setIfInBounds_toArray, List.set_cons_zero, List.set_cons_succ])
    refine wpAnyH_at (i := 11) (v := ?va11) (d := 92) rfl rfl (by kernel_rfl) (by kernel_rfl) (by kernel_rfl) (fun _ _ _ h => h) (Or.inl ⟨by rfl, fun w' hSw => ?hya11⟩) (by assumption) ?resta11
    case hya11 =>
      (try dsimp only at hSw)
      go_simp
      (try with_reducible rfl)
    (try simp only [Act.put, List.setIfInBounds_toArray, List.set_cons_zero, List.set_cons_succ])
    refine wpAnyH_at (i := 12) (v := ?va12) (d := 93) rfl rfl (by kernel_rfl) (by kernel_rfl) (by kernel_rfl) (fun _ _ _ h => h) (Or.inl ⟨by rfl, fun w' hSw => ?hya12⟩) (by assumption) ?resta12
    case hya12 =>
      (try dsimp only at hSw)
      go_simp
      (try with_reducible rfl)
    (try simp only [Act.put, List.setIfInBounds_toArray, List.set_cons_zero, List.set_cons_succ])
    refine wpAnyH_ready (rs := [5]) (by kernel_rfl) (by simp) ?_
    refine AllReadyH.cons rfl (fun K' hK' => ?_) AllReadyH.nil
    go_simp
    refine hK'.out _ _ ?_ (fun hHeld => ?_)
    · exact c0
    clear hK' K'
    (try simp only [Act.put, List.getElem_toArray, List.getElem_cons_succ, List.getElem_cons_zero, List.setIfInBounds_toArray, List.set_cons_zero, List.set_cons_succ])
    refine wpAnyH_at (i := 7) (v := ?va7) (d := 88) rfl rfl (by kernel_rfl) (by kernel_rfl) (by kernel_rfl) (fun _ _ _ h => h) (Or.inl ⟨by rfl, fun w' hSw => ?hya7⟩) (by assumption) ?resta7
    case hya7 =>
      (try dsimp only at hSw)
      go_simp
      (try with_reducible rfl)
    (try simp only [Act.put, List.setIfInBounds_toArray, List.set_cons_zero, List.set_cons_succ])
    refine wpAnyH_ready (rs := [13]) (by kernel_rfl) (by simp) ?_
    refine AllReadyH.cons rfl (fun K' hK' => ?_) AllReadyH.nil
    go_simp
    refine (HCL.out _).mono ?_; rintro e w9 ⟨rfl, rfl⟩
    go_wp2_with fail
    refine hK'.out _ _ ?_ (fun hHeld => ?_)
    · exact c0
    clear hK' K'
    (try simp only [Act.put, List.getElem_toArray, List.getElem_cons_succ, List.getElem_cons_zero, List.setIfInBounds_toArray, List.set_cons_zero, List.set_cons_succ])
    refine wpAnyH_at (i := 14) (v := ?va14) (d := 95) rfl rfl (by kernel_rfl) (by kernel_rfl) (by kernel_rfl) (fun _ _ _ h => h) (Or.inl ⟨by rfl, fun w' hSw => ?hya14⟩) (by assumption) ?resta14
    case hya14 =>
      (try dsimp only at hSw)
      go_simp
      (try with_reducible rfl)
    (try simp only [Act.put, List.setIfInBounds_toArray, List.set_cons_zero, List.set_cons_succ])
    refine wpAnyH_at (i := 15) (v := ?va15) (d := 96) rfl rfl (by kernel_rfl) (by kernel_rfl) (by kernel_rfl) (fun _ _ _ h => h) (Or.inl ⟨by rfl, fun w' hSw => ?hya15⟩) (by assumption) ?resta15
    case hya15 =>
      (try dsimp only at hSw)
      go_simp
      (try with_reducible rfl)
    (try simp only [Act.put, List.setIfInBounds_toArray, List.set_cons_zero, List.set_cons_succ])
    refine wpAnyH_at (i := 16) (v := ?va16) (d := 97) rfl rfl (by kernel_rfl) (by kernel_rfl) (by kernel_rfl) (fun _ _ _ h => h) (Or.inl ⟨by rfl, fun w' hSw => ?hya16⟩) (by assumption) ?resta16
    case hya16 =>
      (try dsimp only at hSw)
      go_simp
      (try with_reducible rfl)
    (try simp only [Act.put, List.setIfInBounds_toArray, List.set_cons_zero, List.set_cons_succ])
    have H5 := hide ((HU.out.low (Below.refl _ _).drew).setZ ⟨R, C, cs, q, col, p, s, false, bl⟩ 3 (.int .i64 (q : Int)) rfl rfl)
    obtain ⟨e0, e1, -⟩ := H5.out.reads
    refine wpAnyH_ready (rs := [17]) (by kernel_rfl) (by simp) ?_
    refine AllReadyH.cons rfl (fun K' hK' => ?_) AllReadyH.nil
    go_simp
    refine hK'.out _ _ ?_ (fun hHeld => ?_)
    · exact e0
    clear hK' K'
    (try simp only [Act.put, List.getElem_toArray, List.getElem_cons_succ, List.getElem_cons_zero, List.setIfInBounds_toArray, List.set_cons_zero, List.set_cons_succ])
    refine wpAnyH_done (by kernel_rfl) ?_ _
    go_wp2
    go_end0
    rw [HSQ.out]
    exact Mr.mk H5.out ((KU.out.trans K2.drew).trans (K2.set _ _ _ _ _)) (.inl rfl)
  · go_enter Tryd.func35, Tryd.ntmps35
    go_wp2_with fail
    refine (HN0.out _ (Below.refl _ _)).mono ?_; rintro e w1 ⟨rfl, rfl⟩
    go_wp2_with fail
    (try rw [hm])
    go_region
    go_wp2_with fail
    obtain ⟨U, hU, HU, KU⟩ := named (R := fun V => TrB w0 V z g cap ⟨R, C, cs, row, col, p, s, false, bl⟩ ∧ K2 z g W V) ⟨(H.out.setZ ⟨R, C, cs, row, col, p, s, false, bl⟩ 10 (.bool false) rfl rfl).low (Below.refl _ _).drew, (K2.set _ _ _ _ _).trans K2.drew⟩
    rw [hU]
    have HU := hide HU
    have KU := hide KU
    clear hU H c0 c1 c2 c3 c4 c5 c6 c7 c8 c9 c10 c11 bf
    obtain ⟨c0, c1, -, c3, c4, -⟩ := HU.out.reads
    have bf := fun i => HU.out.b.frozen i
    obtain ⟨m1, m2⟩ := HMB.out
    have HCL := hide (fun (w : World) => rwithin_any ((row : Int) - m) (R : Int) w (by omega) (by omega))
    obtain ⟨q, hq⟩ : ∃ q, clipN ((row : Int) - m) (R : Int) = q := ⟨_, rfl⟩
    rw [hq] at HCL HSQ
    clear hq
    obtain ⟨vv, hvv⟩ : ∃ v, ((row : Int) - m) = v := ⟨_, rfl⟩
    have hwr : IntKind.i64.wrap ((row : Int) - m) = vv := by simp only [IntKind.wrap_i64]; omega
    rw [hvv] at HCL
    clear hvv
    refine wp_region_held_drew (S := (fun V => V.cell? ⟨z, 0, none⟩ = some (.int .i64 (R : Int)))) (by kernel_rfl) ?_ (fun hHeld => ?_)
    · exact c0
    refine wpAnyH_at (i := 0) (v := ?vb0) (d := 81) rfl rfl (by kernel_rfl) (by kernel_rfl) (by kernel_rfl) (fun _ _ _ h => h) (Or.inl ⟨by rfl, fun w' hSw => ?hyb0⟩) (by assumption) ?restb0
    case hyb0 =>
      (try dsimp only at hSw)
      go_simp
      (try with_reducible rfl)
    (try simp only [Act.put, List.setIfInBounds_toArray, List.set_cons_zero, List.set_cons_succ])
    refine wpAnyH_at (i := 1) (v := ?vb1) (d := 82) rfl rfl (by kernel_rfl) (by kernel_rfl) (by kernel_rfl) (fun _ _ _ h => h) (Or.inl ⟨by rfl, fun w' hSw => ?hyb1⟩) (by assumption) ?restb1
    case hyb1 =>
      (try dsimp only at hSw)
      go_simp
      (try with_reducible rfl)
    (try simp only [Act.put, List.setIfInBounds_toArray, List.set_cons_zero, List.set_cons_succ])
    refine wpAnyH_at (i := 2) (v := ?vb2) (d := 83) rfl rfl (by kernel_rfl) (by kernel_rfl) (by kernel_rfl) (fun _ _ _ h => h) (Or.inl ⟨by rfl, fun w' hSw => ?hyb2⟩) (by assumption) ?restb2
    case hyb2 =>
      (try dsimp only at hSw)
      go_simp
      (try with_reducible rfl)
    (try simp only [Act.put, List.setIfInBounds_toArray, List.set_cons_zero, List.set_cons_succ])
    refine wpAnyH_at (i := 3) (v := ?vb3) (d := 84) rfl rfl (by kernel_rfl) (by kernel_rfl) (by kernel_rfl) (fun _ _ _ h => h) (Or.inl ⟨by rfl, fun w' hSw => ?hyb3⟩) (by assumption) ?restb3
    case hyb3 =>
      (try dsimp only at hSw)
      go_simp
      (try with_reducible rfl)
    (try simp only [Act.put, List.setIfInBounds_toArray, List.set_cons_zero, List.set_cons_succ])
    refine wpAnyH_at (i := 4) (v := ?vb4) (d := 85) rfl rfl (by kernel_rfl) (by kernel_rfl) (by kernel_rfl) (fun _ _ _ h => h) (Or.inl ⟨by rfl, fun w' hSw => ?hyb4⟩) (by assumption) ?restb4
    case hyb4 =>
      (try dsimp only at hSw)
      go_simp
      (try with_reducible rfl)
    (try simp only [Act.put, List.setIfInBounds_toArray, List.set_cons_zero, List.set_cons_succ])
    refine wpAnyH_at (i := 6) (v := ?vb6) (d := 87) rfl rfl (by kernel_rfl) (by kernel_rfl) (by kernel_rfl) (fun _ _ _ h => h) (Or.inl ⟨by rfl, fun w' hSw => ?hyb6⟩) (by assumption) ?restb6
    case hyb6 =>
      (try dsimp only at hSw)
      go_simp
      (try with_reducible rfl)
    (try simp only [Act.put, List.setIfInBounds_toArray, List.set_cons_zero, List.set_cons_succ])
    refine wpAnyH_at (i := 8) (v := ?vb8) (d := 89) rfl rfl (by kernel_rfl) (by kernel_rfl) (by kernel_rfl) (fun _ _ _ h => h) (Or.inl ⟨by rfl, fun w' hSw => ?hyb8⟩) (by assumption) ?restb8
    case hyb8 =>
      (try dsimp only at hSw)
      go_simp
      (try with_reducible rfl)
    (try simp only [Act.put, List.setIfInBounds_toArray, List.set_cons_zero, List.set_cons_succ])
    refine wpAnyH_at (i := 9) (v := ?vb9) (d := 90) rfl rfl (by kernel_rfl) (by kernel_rfl) (by kernel_rfl) (fun _ _ _ h => h) (Or.inl ⟨by rfl, fun w' hSw => ?hyb9⟩) (by assumption) ?restb9
    case hyb9 =>
      (try dsimp only at hSw)
      go_simp
      (try with_reducible rfl)
    (try simp only [Act.put, List.setIfInBounds_toArray, List.set_cons_zero, List.set_cons_succ])
    refine wpAnyH_at (i := 10) (v := ?vb10) (d := 91) rfl rfl (by kernel_rfl) (by kernel_rfl) (by kernel_rfl) (fun _ _ _ h => h) (Or.inl ⟨by rfl, fun w' hSw => ?hyb10⟩) (by assumption) ?restb10
    case hyb10 =>
      (try dsimp only at hSw)
      go_simp
      (try with_reducible rfl)
    (try simp only [Act.put, List.setIfInBounds_toArray, List.set_cons_zero, List.set_cons_succ])
    refine wpAnyH_at (i := 11) (v := ?vb11) (d := 92) rfl rfl (by kernel_rfl) (by kernel_rfl) (by kernel_rfl) (fun _ _ _ h => h) (Or.inl ⟨by rfl, fun w' hSw => ?hyb11⟩) (by assumption) ?restb11
    case hyb11 =>
      (try dsimp only at hSw)
      go_simp
      (try with_reducible rfl)
    (try simp only [Act.put, List.setIfInBounds_toArray, List.set_cons_zero, List.set_cons_succ])
    refine wpAnyH_at (i := 12) (v := ?vb12) (d := 93) rfl rfl (by kernel_rfl) (by kernel_rfl) (by kernel_rfl) (fun _ _ _ h => h) (Or.inl ⟨by rfl, fun w' hSw => ?hyb12⟩) (by assumption) ?restb12
    case hyb12 =>
      (try dsimp only at hSw)
      go_simp
      (try with_reducible rfl)
    (try simp only [Act.put, List.setIfInBounds_toArray, List.set_cons_zero, List.set_cons_succ])
    refine wpAnyH_ready (rs := [5]) (by kernel_rfl) (by simp) ?_
    refine AllReadyH.cons rfl (fun K' hK' => ?_) AllReadyH.nil
    go_simp
    refine hK'.out _ _ ?_ (fun hHeld => ?_)
    · exact c0
    clear hK' K'
    (try simp only [Act.put, List.getElem_toArray, List.getElem_cons_succ, List.getElem_cons_zero, List.setIfInBounds_toArray, List.set_cons_zero, List.set_cons_succ])
    refine wpAnyH_at (i := 7) (v := ?vb7) (d := 88) rfl rfl (by kernel_rfl) (by kernel_rfl) (by kernel_rfl) (fun _ _ _ h => h) (Or.inl ⟨by rfl, fun w' hSw => ?hyb7⟩) (by assumption) ?restb7
    case hyb7 =>
      (try dsimp only at hSw)
      go_simp
      (try with_reducible rfl)
    (try simp only [Act.put, List.setIfInBounds_toArray, List.set_cons_zero, List.set_cons_succ])
    refine wpAnyH_ready (rs := [13]) (by kernel_rfl) (by simp) ?_
    refine AllReadyH.cons rfl (fun K' hK' => ?_) AllReadyH.nil
    go_simp
    refine (HCL.out _).mono ?_; rintro e w9 ⟨rfl, rfl⟩
    go_wp2_with fail
    refine hK'.out _ _ ?_ (fun hHeld => ?_)
    · exact c0
    clear hK' K'
    (try simp only [Act.put, List.getElem_toArray, List.getElem_cons_succ, List.getElem_cons_zero, List.setIfInBounds_toArray, List.set_cons_zero, List.set_cons_succ])
    refine wpAnyH_at (i := 14) (v := ?vb14) (d := 95) rfl rfl (by kernel_rfl) (by kernel_rfl) (by kernel_rfl) (fun _ _ _ h => h) (Or.inl ⟨by rfl, fun w' hSw => ?hyb14⟩) (by assumption) ?restb14
    case hyb14 =>
      (try dsimp only at hSw)
      go_simp
      (try with_reducible rfl)
    (try simp only [Act.put, List.setIfInBounds_toArray, List.set_cons_zero, List.set_cons_succ])
    refine wpAnyH_at (i := 15) (v := ?vb15) (d := 96) rfl rfl (by kernel_rfl) (by kernel_rfl) (by kernel_rfl) (fun _ _ _ h => h) (Or.inl ⟨by rfl, fun w' hSw => ?hyb15⟩) (by assumption) ?restb15
    case hyb15 =>
      (try dsimp only at hSw)
      go_simp
      (try with_reducible rfl)
    (try simp only [Act.put, List.setIfInBounds_toArray, List.set_cons_zero, List.set_cons_succ])
    refine wpAnyH_at (i := 16) (v := ?vb16) (d := 97) rfl rfl (by kernel_rfl) (by kernel_rfl) (by kernel_rfl) (fun _ _ _ h => h) (Or.inl ⟨by rfl, fun w' hSw => ?hyb16⟩) (by assumption) ?restb16
    case hyb16 =>
      (try dsimp only at hSw)
      go_simp
      (try with_reducible rfl)
    (try simp only [Act.put, List.setIfInBounds_toArray, List.set_cons_zero, List.set_cons_succ])
    have H5 := hide ((HU.out.low (Below.refl _ _).drew).setZ ⟨R, C, cs, q, col, p, s, false, bl⟩ 3 (.int .i64 (q : Int)) rfl rfl)
    obtain ⟨e0, e1, -⟩ := H5.out.reads
    refine wpAnyH_ready (rs := [17]) (by kernel_rfl) (by simp) ?_
    refine AllReadyH.cons rfl (fun K' hK' => ?_) AllReadyH.nil
    go_simp
    refine hK'.out _ _ ?_ (fun hHeld => ?_)
    · exact e0
    clear hK' K'
    (try simp only [Act.put, List.getElem_toArray, List.getElem_cons_succ, List.getElem_cons_zero, List.setIfInBounds_toArray, List.set_cons_zero, List.set_cons_succ])
    refine wpAnyH_done (by kernel_rfl) ?_ _
    go_wp2
    go_end0
    rw [HSQ.out]
    exact Mr.mk H5.out ((KU.out.trans K2.drew).trans (K2.set _ _ _ _ _)) (.inl rfl)
end Go.Proofs.YtmemdhmjhckmaaaDoor
