/- A terminal in its box, its cells in a block of their own. Terminal: erase. Contracts of grids.New and limnerref06.New. -/
import Derived.Test.YtmemdhmjhckmaaaDoorZ7
import Derived.Test.YtmemdhmjhckmaaaDoorZ8
import Derived.Test.YtmemdhmjhckmaaaDoorZ15
namespace Go.Proofs.YtmemdhmjhckmaaaDoor
open Go.RowKit
set_option maxRecDepth 100000

structure Tm where
  rows : Nat
  cols : Nat
  cs : List Cl
  row : Nat
  col : Nat
  p : Nat × ByteArray
  sty : Cl
  waits : Bool
  bells : Nat
def tmC (R C n g cap row col : Nat) (a : Nat) (tx : ByteArray) (s : Cl) (wt : Bool) (bl : Nat) : List Value :=
  [.bool true, .int .i64 (R : Int), .int .i64 (C : Int), .slice (some ⟨g, 0, none⟩) n cap, .int .i64 (row : Int), .int .i64 (col : Int), .int .i64 (a : Int), .string tx, .int .i64 s.fg, .bool s.bo, .bool s.un, .bool s.iv, .bool wt, .int .i64 (bl : Int)]
def tmCs (t : Tm) (g cap : Nat) : List Value := tmC t.rows t.cols t.cs.length g cap t.row t.col t.p.1 t.p.2 t.sty t.waits t.bells
def TTab (W : World) : Prop := W.cell? ⟨5, 0, none⟩ = some (.int .i32 32) ∧ W.cell? ⟨5, 1, none⟩ = some (.int .i64 1) ∧ W.cell? ⟨5, 2, none⟩ = some (.int .i64 0) ∧ W.cell? ⟨5, 3, none⟩ = some (.bool false) ∧ W.cell? ⟨5, 4, none⟩ = some (.bool false) ∧ W.cell? ⟨5, 5, none⟩ = some (.bool false)
theorem cell_below {w W : World} {b o : Nat} {u : Value} (hb : Below w.heap.size w W) (h : w.cell? ⟨b, o, none⟩ = some u) : W.cell? ⟨b, o, none⟩ = some u := (hb.cell (p := ⟨b, o, none⟩) (World.block_lt_of_cell? _ _ h)).trans h
theorem TTab.below {w W : World} (h : TTab w) (hb : Below w.heap.size w W) : TTab W :=
  ⟨cell_below hb h.1, cell_below hb h.2.1, cell_below hb h.2.2.1, cell_below hb h.2.2.2.1, cell_below hb h.2.2.2.2.1, cell_below hb h.2.2.2.2.2⟩
structure Tabs (W : World) : Prop where
  t : TTab W
  b : BTab W
  w : WTabs W
  u : UTabs W
theorem BTab.below' {w W : World} (h : BTab w) (hb : Below w.heap.size w W) : BTab W :=
  ⟨cell_below hb h.1, cell_below hb h.2.1, cell_below hb h.2.2.1, cell_below hb h.2.2.2.1, cell_below hb h.2.2.2.2.1, cell_below hb h.2.2.2.2.2⟩
theorem Tabs.below {w W : World} (h : Tabs w) (hb : Below w.heap.size w W) : Tabs W := ⟨h.t.below hb, h.b.below' hb, h.w.below hb, h.u.below hb⟩
theorem Tabs.lt {w : World} (h : Tabs w) : 5 < w.heap.size := World.block_lt_of_cell? _ _ h.t.1
/-- All blocks but two stay. -/
structure K2 (z g : Nat) (W V : World) : Prop where
  os : V.os = W.os
  tape : V.tape = W.tape
  output : V.output = W.output
  size : W.heap.size ≤ V.heap.size
  block : ∀ b, b < W.heap.size → b ≠ z → b ≠ g → V.heap[b]? = W.heap[b]?
theorem K2.of {z g : Nat} {W V : World} (h : Below W.heap.size W V) : K2 z g W V := ⟨h.os, h.tape, h.output, h.size, fun b hb _ _ => h.block b hb⟩
theorem K2.refl (z g : Nat) (W : World) : K2 z g W W := K2.of (Below.refl _ _)
theorem K2.trans {z g : Nat} {A W V : World} (h : K2 z g A W) (h2 : K2 z g W V) : K2 z g A V :=
  ⟨h2.os.trans h.os, h2.tape.trans h.tape, h2.output.trans h.output, Nat.le_trans h.size h2.size, fun b hb h3 h4 => (h2.block b (Nat.lt_of_lt_of_le hb h.size) h3 h4).trans (h.block b hb h3 h4)⟩
theorem K2.set (z g o : Nat) (W : World) (v : Value) : K2 z g W (W.setCell ⟨z, o, none⟩ v) :=
  ⟨rfl, rfl, rfl, by unfold World.setCell; simp, fun b _ h1 _ => Below.heap_setCell _ _ _ _ h1⟩
theorem K2.setG (z g o : Nat) (W : World) (v : Value) : K2 z g W (W.setCell ⟨g, o, none⟩ v) :=
  ⟨rfl, rfl, rfl, by unfold World.setCell; simp, fun b _ _ h2 => Below.heap_setCell _ _ _ _ h2⟩
theorem K2.grown {z g : Nat} {W V : World} (h : W.grownBy V (some g)) : K2 z g W V :=
  ⟨h.os, h.tape, h.output, h.size, fun b hb _ h2 => h.block b hb (fun e => h2 (by injection e))⟩
theorem K2.belowB {z g B : Nat} {w W V : World} (h : K2 z g W V) (hz : B ≤ z) (hg : B ≤ g) (hb : Below B w W) (hs : B ≤ W.heap.size) : Below B w V :=
  ⟨h.os.trans hb.os, h.tape.trans hb.tape, h.output.trans hb.output, Nat.le_trans hb.size h.size, fun b hlt => (h.block b (by omega) (by omega) (by omega)).trans (hb.block b hlt)⟩
theorem K2.blk {z g b : Nat} {W V : World} {t : TypeId} {cs : List Value} (h : K2 z g W V) (hb : Blk W b t cs) (h1 : b ≠ z) (h2 : b ≠ g) : Blk V b t cs := (h.block b hb.lt h1 h2).trans hb
theorem K2.drew {z g : Nat} {W : World} : K2 z g W W.drew := K2.of (Below.refl _ _).drew
/-- The terminal in its box z, its cells in the block g; w0: the world ahead of both. -/
structure TmB (w0 W : World) (z g cap : Nat) (t : Tm) : Prop where
  b : Blk W z 56 (tmCs t g cap)
  own : OwnC W w0.heap.size (.slice (some ⟨g, 0, none⟩) t.cs.length cap) t.cs
  hz : z ≠ g
  hB : w0.heap.size ≤ z
  below : Below w0.heap.size w0 W
  hcap : cap ≤ maxLen
theorem TmB.hG {w0 W : World} {z g cap : Nat} {t : Tm} (h : TmB w0 W z g cap t) : w0.heap.size ≤ g := h.own.base
theorem OwnC.keepG {W V : World} {B g n cap : Nat} {L : List Cl} (h : OwnC W B (.slice (some ⟨g, 0, none⟩) n cap) L) (hk : V.heap[g]? = W.heap[g]?) : OwnC V B (.slice (some ⟨g, 0, none⟩) n cap) L := by
  refine ⟨h.1, ?_⟩
  rcases h.2 with h0 | ⟨g', cap', cur, e, hg, hh, h1, h2, h3, h4⟩
  · exact .inl h0
  · injection e with e1 e2 e3
    injection e1 with e1; injection e1 with e1 e1'; subst e1
    exact .inr ⟨g, cap', cur, by rw [← e3, e2], hg, hk.trans hh, h1, h2, h3, h4⟩
theorem OwnC.ltG {W : World} {B g n cap : Nat} {L : List Cl} (h : OwnC W B (.slice (some ⟨g, 0, none⟩) n cap) L) : g < W.heap.size := by
  rcases h.2 with ⟨e, -⟩ | ⟨g', cap', cur, e, hg, hh, h1, h2, h3, h4⟩
  · cases e
  · injection e with e1 e2 e3
    injection e1 with e1; injection e1 with e1 e1'; subst e1
    exact (Array.getElem?_eq_some_iff.1 hh).1
theorem TmB.sz {w0 W : World} {z g cap : Nat} {t : Tm} (h : TmB w0 W z g cap t) : w0.heap.size ≤ W.heap.size := by have := h.b.lt; have := h.hB; omega
theorem TmB.low {w0 W V : World} {z g cap : Nat} {t : Tm} (h : TmB w0 W z g cap t) (hb : Below W.heap.size W V) : TmB w0 V z g cap t :=
  ⟨h.b.below hb, h.own.below hb, h.hz, h.hB, h.below.trans (hb.mono h.sz), h.hcap⟩
theorem TmB.keep {w0 W V : World} {z g cap z' g' : Nat} {t : Tm} (h : TmB w0 W z g cap t) (hk : K2 z' g' W V) (h1 : z ≠ z') (h2 : z ≠ g') (h3 : g ≠ z') (h4 : g ≠ g') (hB1 : w0.heap.size ≤ z') (hB2 : w0.heap.size ≤ g') : TmB w0 V z g cap t :=
  ⟨hk.blk h.b h1 h2, h.own.keepG (hk.block g h.own.ltG h3 h4), h.hz, h.hB, hk.belowB hB1 hB2 h.below h.sz, h.hcap⟩
theorem TmB.setZ {w0 W : World} {z g cap : Nat} {t : Tm} (h : TmB w0 W z g cap t) (t' : Tm) (o : Nat) (v : Value) (hs : (tmCs t g cap).set o v = tmCs t' g cap) (hc : t'.cs = t.cs) : TmB w0 (W.setCell ⟨z, o, none⟩ v) z g cap t' :=
  ⟨by have := h.b.set o v; rw [hs] at this; exact this, by rw [hc]; exact h.own.keepG (Below.heap_setCell _ _ _ _ h.hz.symm), h.hz, h.hB, h.below.setCell (p := ⟨z, o, none⟩) h.hB v, h.hcap⟩
def set6 (W : World) (g j : Nat) (x : Cl) : World := (((((W.setCell ⟨g, j * 6, none⟩ (.int .i32 x.r)).setCell ⟨g, j * 6 + 1, none⟩ (.int .i64 x.w)).setCell ⟨g, j * 6 + 2, none⟩ (.int .i64 x.fg)).setCell ⟨g, j * 6 + 3, none⟩ (.bool x.bo)).setCell ⟨g, j * 6 + 4, none⟩ (.bool x.un)).setCell ⟨g, j * 6 + 5, none⟩ (.bool x.iv)
theorem set6_k2 (z g j : Nat) (W : World) (x : Cl) : K2 z g W (set6 W g j x) := K2.grown (grown6 _ _ _ _ _ _ _ _ _ _ _ _ _ _)
theorem TmB.setG {w0 W : World} {z g cap : Nat} {t : Tm} (h : TmB w0 W z g cap t) (j : Nat) (x : Cl) (hj : j < t.cs.length) : TmB w0 (set6 W g j x) z g cap { t with cs := t.cs.set j x } := by
  have hk := set6_k2 z g j W x
  have hg := h.hG
  refine ⟨?_, ?_, h.hz, h.hB, hk.belowB h.hB hg h.below h.sz, h.hcap⟩
  · have hb : (set6 W g j x).heap[z]? = W.heap[z]? := (grown6 W g _ _ _ _ _ _ _ _ _ _ _ _).block z h.b.lt (fun e => h.hz (by injection e))
    have : tmCs { t with cs := t.cs.set j x } g cap = tmCs t g cap := by unfold tmCs; simp
    rw [this]
    exact hb.trans h.b
  · have := own_set6 h.own rfl hj x
    show OwnC (set6 W g j x) w0.heap.size (.slice (some ⟨g, 0, none⟩) (t.cs.set j x).length cap) (t.cs.set j x)
    rw [List.length_set]
    exact this
theorem TmB.grownG {w0 W V : World} {z g cap : Nat} {t : Tm} {L : List Cl} (h : TmB w0 W z g cap t) (hg : W.grownBy V (some g)) (hl : L.length = t.cs.length) (ho : OwnC V w0.heap.size (.slice (some ⟨g, 0, none⟩) t.cs.length cap) L) : TmB w0 V z g cap { t with cs := L } := by
  have hk : K2 z g W V := K2.grown hg
  refine ⟨?_, by rw [← hl] at ho; exact ho, h.hz, h.hB, hk.belowB h.hB h.hG h.below h.sz, h.hcap⟩
  have : tmCs { t with cs := L } g cap = tmCs t g cap := by unfold tmCs; simp [hl]
  rw [this]
  exact (hg.block z h.b.lt (fun e => h.hz (by injection e))).trans h.b
/-- A name for a world. -/
theorem named {R : World → Prop} {V : World} (h : R V) : ∃ U, V = U ∧ R U := ⟨V, rfl, h⟩
/-- A cell is laid, in a region that draws its order. -/
theorem TmB.lay {w0 W : World} {z g cap : Nat} {t : Tm} (h : TmB w0 W z g cap t) (j : Nat) (r w fg : Int) (bo un iv : Bool) (hj : j < t.cs.length) :
    TmB w0 ((((((W.setCell ⟨g, j * 6, none⟩ (.int .i32 r)).setCell ⟨g, j * 6 + 1, none⟩ (.int .i64 w)).setCell ⟨g, j * 6 + 2, none⟩ (.int .i64 fg)).setCell ⟨g, j * 6 + 3, none⟩ (.bool bo)).setCell ⟨g, j * 6 + 4, none⟩ (.bool un)).setCell ⟨g, j * 6 + 5, none⟩ (.bool iv)).drew z g cap { t with cs := t.cs.set j ⟨r, w, fg, bo, un, iv⟩ } ∧
    K2 z g W ((((((W.setCell ⟨g, j * 6, none⟩ (.int .i32 r)).setCell ⟨g, j * 6 + 1, none⟩ (.int .i64 w)).setCell ⟨g, j * 6 + 2, none⟩ (.int .i64 fg)).setCell ⟨g, j * 6 + 3, none⟩ (.bool bo)).setCell ⟨g, j * 6 + 4, none⟩ (.bool un)).setCell ⟨g, j * 6 + 5, none⟩ (.bool iv)).drew :=
  ⟨(h.setG j ⟨r, w, fg, bo, un, iv⟩ hj).low (Below.refl _ _).drew, (set6_k2 z g j W ⟨r, w, fg, bo, un, iv⟩).trans K2.drew⟩
/-- What the terminal's box reads. -/
theorem TmB.reads {w0 W : World} {z g cap : Nat} {R C : Nat} {cs : List Cl} {row col : Nat} {a : Nat} {tx : ByteArray} {s : Cl} {wt : Bool} {bl : Nat} (h : TmB w0 W z g cap ⟨R, C, cs, row, col, (a, tx), s, wt, bl⟩) :
    W.cell? ⟨z, 0, none⟩ = some (.bool true) ∧ W.cell? ⟨z, 1, none⟩ = some (.int .i64 (R : Int)) ∧ W.cell? ⟨z, 2, none⟩ = some (.int .i64 (C : Int)) ∧ W.cell? ⟨z, 3, none⟩ = some (.slice (some ⟨g, 0, none⟩) cs.length cap) ∧ W.cell? ⟨z, 4, none⟩ = some (.int .i64 (row : Int)) ∧ W.cell? ⟨z, 5, none⟩ = some (.int .i64 (col : Int)) ∧ W.cell? ⟨z, 6, none⟩ = some (.int .i64 (a : Int)) ∧ W.cell? ⟨z, 7, none⟩ = some (.string tx) ∧ W.cell? ⟨z, 8, none⟩ = some (.int .i64 s.fg) ∧ W.cell? ⟨z, 9, none⟩ = some (.bool s.bo) ∧ W.cell? ⟨z, 10, none⟩ = some (.bool s.un) ∧ W.cell? ⟨z, 11, none⟩ = some (.bool s.iv) ∧ W.cell? ⟨z, 12, none⟩ = some (.bool wt) ∧ W.cell? ⟨z, 13, none⟩ = some (.int .i64 (bl : Int)) :=
  ⟨h.b.cell (i := 0) rfl, h.b.cell (i := 1) rfl, h.b.cell (i := 2) rfl, h.b.cell (i := 3) rfl, h.b.cell (i := 4) rfl, h.b.cell (i := 5) rfl, h.b.cell (i := 6) rfl, h.b.cell (i := 7) rfl, h.b.cell (i := 8) rfl, h.b.cell (i := 9) rfl, h.b.cell (i := 10) rfl, h.b.cell (i := 11) rfl, h.b.cell (i := 12) rfl, h.b.cell (i := 13) rfl⟩
/-- What a method of no result does: the terminal is t' then. -/
def Mv (w0 W : World) (z g cap : Nat) (t' : Tm) (e : Ending) (W' : World) : Prop := e = .returned (.tuple #[]) ∧ TmB w0 W' z g cap t' ∧ K2 z g W W'
theorem Mv.mk {w0 W : World} {z g cap : Nat} {t' : Tm} {W' : World} (h1 : TmB w0 W' z g cap t') (h2 : K2 z g W W') : Mv w0 W z g cap t' (.returned (.tuple #[])) W' := ⟨rfl, h1, h2⟩
/-- Erase lays a blank. -/
def eraseM (t : Tm) (i : Nat) : Tm := { t with cs := wipeL t.cs i }
/-- The cells' halves stand beside each other. -/
def okW (L : List Cl) (i : Nat) : Prop := ∃ x, L[i]? = some x ∧ (x.w = 2 → i + 1 < L.length) ∧ (x.w = 0 → 1 ≤ i)
end Go.Proofs.YtmemdhmjhckmaaaDoor
namespace Go.Proofs.YtmemdhmjhckmaaaDoor
open Go.RowKit
set_option maxRecDepth 100000

theorem okW.get {L : List Cl} {i : Nat} (h : okW L i) : i < L.length := by
  obtain ⟨x, hx, -⟩ := h
  exact (List.getElem?_eq_some_iff.1 hx).1
theorem own_reads {W : World} {B g n cap : Nat} {L : List Cl} (h : OwnC W B (.slice (some ⟨g, 0, none⟩) n cap) L) {i : Nat} {x : Cl} (hx : L[i]? = some x) :
    W.cell? ⟨g, i * 6, none⟩ = some (.int .i32 x.r) ∧ W.cell? ⟨g, i * 6 + 1, none⟩ = some (.int .i64 x.w) ∧ W.cell? ⟨g, i * 6 + 2, none⟩ = some (.int .i64 x.fg) ∧ W.cell? ⟨g, i * 6 + 3, none⟩ = some (.bool x.bo) ∧ W.cell? ⟨g, i * 6 + 4, none⟩ = some (.bool x.un) ∧ W.cell? ⟨g, i * 6 + 5, none⟩ = some (.bool x.iv) := by
  have := h.cls.get hx
  simp only [Nat.zero_add] at this
  exact this
theorem TTab.k2 {w0 W V : World} {z g cap : Nat} {t : Tm} (h : TmB w0 V z g cap t) (hT : TTab w0) : TTab V := hT.below h.below
set_option maxHeartbeats 4000000 in
theorem terase_any {w0 W : World} {z g cap : Nat} (t : Tm) (h : TmB w0 W z g cap t) (hT : Tabs w0) (hn : t.cs.length ≤ 20000) (i : Nat) (ho : okW t.cs i) :
    Calls Tryd.prog 78 #[.pointer (some ⟨z, 0, none⟩), .int .i64 (i : Int)] W (Mv w0 W z g cap (eraseM t i)) := by
  obtain ⟨R, C, cs, row, col, ⟨a, tx⟩, s, wt, bl⟩ := t
  obtain ⟨x, hx, h2, h0⟩ := ho
  have hi := (List.getElem?_eq_some_iff.1 hx).1
  obtain ⟨c0, c1, c2, c3, -⟩ := h.reads
  obtain ⟨t0, t1, t2, t3, t4, t5⟩ := hT.t.below h.below
  obtain ⟨x0, x1, x2, x3, x4, x5⟩ := own_reads h.own hx
  have hG := h.hG
  have hblt := hT.lt
  have hzg : z ≠ g := h.hz
  have hg1 : ¬ g = 5 := by omega
  have hg2 : ¬ 5 = g := by omega
  have hf := fun i => h.own.frozen i
  have H := hide h
  dsimp only at hn hx h2 h0 hi
  obtain ⟨n, hne⟩ : ∃ n, cs.length = n := ⟨_, rfl⟩
  have HN := hide hne
  rw [hne] at c3 hn h2 hi
  clear h hne c0 c1 c2
  have HX := hide hx
  clear hx
  obtain ⟨r, wd, fg, bo, un, iv⟩ := x
  dsimp only at x0 x1 x2 x3 x4 x5 h2 h0
  by_cases hw2 : wd = 2
  · have HE := hide (wipe_2 HX.out hw2)
    have hi1 := h2 hw2
    have hi2 : (i : Int) + 1 < (n : Int) := by omega
    obtain ⟨d, hd⟩ : ∃ d, cs[i + 1]? = some d := ⟨_, List.getElem?_eq_getElem (show i + 1 < cs.length by rw [HN.out]; exact hi1)⟩
    obtain ⟨y0, y1, y2, y3, y4, y5⟩ := own_reads H.out.own hd
    clear hd
    subst hw2
    clear h2 h0
    go_enter Tryd.func78, Tryd.ntmps78
    go_wp2_with fail
    go_region
    obtain ⟨U, hU, H1, K1⟩ := named (R := fun V => TmB w0 V z g cap _ ∧ K2 z g W V) (H.out.lay (i + 1) 32 1 0 false false false (by dsimp only; rw [HN.out]; exact hi1))
    rw [hU]
    have H1 := hide H1
    have K1 := hide K1
    clear hU c3 t0 t1 t2 t3 t4 t5 hf x0 x1 x2 x3 x4 x5 y0 y1 y2 y3 y4 y5
    dsimp only at H1
    obtain ⟨c0, c1, c2, c3, -⟩ := H1.out.reads
    rw [List.length_set, HN.out] at c3
    obtain ⟨t0, t1, t2, t3, t4, t5⟩ := hT.t.below H1.out.below
    have hf := fun i => H1.out.own.frozen i
    clear c0 c1 c2
    obtain ⟨d', hd'⟩ : ∃ d, (cs.set (i + 1) ⟨32, 1, 0, false, false, false⟩)[i]? = some d := ⟨_, List.getElem?_eq_getElem (by rw [List.length_set, HN.out]; exact hi)⟩
    obtain ⟨x0, x1, x2, x3, x4, x5⟩ := own_reads H1.out.own hd'
    clear hd'
    go_wp2_with fail
    go_region
    obtain ⟨V, hV, H2, K2'⟩ := named (R := fun V => TmB w0 V z g cap _ ∧ K2 z g U V) (H1.out.lay i 32 1 0 false false false (by dsimp only; rw [List.length_set, HN.out]; exact hi))
    rw [hV]
    have H2 := hide H2
    have K2' := hide K2'
    clear hV
    go_wp2
    go_end0
    refine Mv.mk ?_ (K1.out.trans K2'.out)
    unfold eraseM
    dsimp only
    rw [HE.out]
    exact H2.out
  by_cases hw0 : wd = 0
  · have HE := hide (wipe_0 HX.out hw0)
    have hi0 := h0 hw0
    obtain ⟨j, rfl⟩ : ∃ j, i = j + 1 := ⟨i - 1, by omega⟩
    rw [Nat.add_sub_cancel] at HE
    have hj : j < n := by omega
    have hj2 : (j : Int) < (n : Int) := by omega
    obtain ⟨d, hd⟩ : ∃ d, cs[j]? = some d := ⟨_, List.getElem?_eq_getElem (show j < cs.length by rw [HN.out]; exact hj)⟩
    obtain ⟨y0, y1, y2, y3, y4, y5⟩ := own_reads H.out.own hd
    clear hd h2 h0 hi0
    subst hw0
    go_enter Tryd.func78, Tryd.ntmps78
    go_wp2_with fail
    go_region
    obtain ⟨U, hU, H1, K1⟩ := named (R := fun V => TmB w0 V z g cap _ ∧ K2 z g W V) (H.out.lay j 32 1 0 false false false (by dsimp only; rw [HN.out]; exact hj))
    rw [hU]
    have H1 := hide H1
    have K1 := hide K1
    clear hU c3 t0 t1 t2 t3 t4 t5 hf x0 x1 x2 x3 x4 x5 y0 y1 y2 y3 y4 y5
    dsimp only at H1
    obtain ⟨c0, c1, c2, c3, -⟩ := H1.out.reads
    rw [List.length_set, HN.out] at c3
    obtain ⟨t0, t1, t2, t3, t4, t5⟩ := hT.t.below H1.out.below
    have hf := fun i => H1.out.own.frozen i
    clear c0 c1 c2
    obtain ⟨d', hd'⟩ : ∃ d, (cs.set j ⟨32, 1, 0, false, false, false⟩)[j + 1]? = some d := ⟨_, List.getElem?_eq_getElem (by rw [List.length_set, HN.out]; exact hi)⟩
    obtain ⟨x0, x1, x2, x3, x4, x5⟩ := own_reads H1.out.own hd'
    clear hd'
    go_wp2_with fail
    go_region
    obtain ⟨V, hV, H2, K2'⟩ := named (R := fun V => TmB w0 V z g cap _ ∧ K2 z g U V) (H1.out.lay (j + 1) 32 1 0 false false false (by dsimp only; rw [List.length_set, HN.out]; exact hi))
    rw [hV]
    have H2 := hide H2
    have K2' := hide K2'
    clear hV
    go_wp2
    go_end0
    refine Mv.mk ?_ (K1.out.trans K2'.out)
    unfold eraseM
    dsimp only
    rw [HE.out]
    exact H2.out
  · have HE := hide (wipe_1 HX.out hw2 hw0)
    clear h2 h0
    go_enter Tryd.func78, Tryd.ntmps78
    go_wp2_with fail
    go_region
    obtain ⟨V, hV, H2, K2'⟩ := named (R := fun V => TmB w0 V z g cap _ ∧ K2 z g W V) (H.out.lay i 32 1 0 false false false (by dsimp only; rw [HN.out]; exact hi))
    rw [hV]
    have H2 := hide H2
    have K2' := hide K2'
    clear hV
    go_wp2
    go_end0
    refine Mv.mk ?_ K2'.out
    unfold eraseM
    dsimp only
    rw [HE.out]
    exact H2.out
end Go.Proofs.YtmemdhmjhckmaaaDoor
namespace Go.Proofs.YtmemdhmjhckmaaaDoor
open Go.RowKit
set_option maxRecDepth 100000

theorem results_cell_tmp {P : Program} {fn : Func} {p q : Tmp} {ty : TypeId} (h : fn.results = #[.cell p ty, .tmp q]) (tmps : Array Value) (w : World) (g : Nat) (t : TypeId) (cs : Array Value) (fr : Nat × Nat) (d : TypeDesc) (v : Value)
    (hp : tmps.getD p undef = .pointer (some ⟨g, 0, none⟩)) (hq : tmps.getD q undef = v) (hg : w.heap[g]? = some (.cells cs t fr))
    (hu : P.underlying ty = some d) (hd : (match d with | .struct _ | .array _ _ => true | _ => false) = true) (hi : (P.info? ty).map (·.size) = some cs.size) :
    (results fn tmps).run P w = .ok (.tuple #[.agg cs, v]) w := by
  have hp' : tmps[p]?.getD undef = .pointer (some ⟨g, 0, none⟩) := by simpa using hp
  have hq' : tmps[q]?.getD undef = v := by simpa using hq
  simp [results, h, hp', hq', asAddr, run_loadVar_row w g t ty cs fr d hg hu hd hi]
def zeroC : Cl := ⟨0, 0, 0, false, false, false⟩
theorem made_zero (n : Nat) : (madeCells #[.int .i32 0, .int .i64 0, .int .i64 0, .bool false, .bool false, .bool false] (n * 6)).toList = flatC (List.replicate n zeroC) := by
  apply List.ext_getElem?
  intro j
  by_cases hj : j < n * 6
  · have h6 := flatC_at (List.replicate n zeroC) (j / 6) zeroC (by rw [List.getElem?_replicate, if_pos (by omega)]) (j % 6) (Nat.mod_lt _ (by omega))
    rw [show j / 6 * 6 + j % 6 = j by omega] at h6
    rw [h6]
    have hm : j % 6 < 6 := Nat.mod_lt _ (by omega)
    simp only [madeCells, Array.toList_map, Array.toList_range, List.getElem?_map, List.getElem?_range hj, Option.map_some]
    obtain ⟨m, e⟩ : ∃ m, j % 6 = m := ⟨_, rfl⟩
    rw [show (#[.int .i32 0, .int .i64 0, .int .i64 0, .bool false, .bool false, .bool false] : Array Value).size = 6 from rfl, e]
    rw [e] at hm
    have : m = 0 ∨ m = 1 ∨ m = 2 ∨ m = 3 ∨ m = 4 ∨ m = 5 := by omega
    rcases this with rfl | rfl | rfl | rfl | rfl | rfl <;> rfl
  · rw [List.getElem?_eq_none (by simp [size_madeCells]; omega), List.getElem?_eq_none (by rw [flatC_len]; simp; omega)]
/-- The first i of n cells are blanks. -/
def newTo (n i : Nat) : List Cl := List.replicate i blankC ++ List.replicate (n - i) zeroC
theorem newTo_len {n i : Nat} (h : i ≤ n) : (newTo n i).length = n := by unfold newTo; rw [List.length_append, List.length_replicate, List.length_replicate]; omega
theorem newTo_0 (n : Nat) : newTo n 0 = List.replicate n zeroC := by unfold newTo; simp
theorem newTo_all (n : Nat) : newTo n n = List.replicate n blankC := by unfold newTo; simp
theorem newTo_step {n i : Nat} (h : i < n) : (newTo n i).set i blankC = newTo n (i + 1) := by
  unfold newTo
  obtain ⟨d, hd⟩ : ∃ d, n - i = d + 1 := ⟨n - i - 1, by omega⟩
  rw [hd, show n - (i + 1) = d by omega, List.replicate_succ, List.set_append_right _ _ (by simp), List.length_replicate, Nat.sub_self, List.set_cons_zero, List.replicate_succ', List.append_assoc]
  rfl
theorem OwnC.off {W : World} {B g n c : Nat} {L : List Cl} (h : OwnC W B (.slice (some ⟨g, 0, none⟩) n c) L) {p : Addr} (hp : p.block ≠ g) (x : Value) : OwnC (W.setCell p x) B (.slice (some ⟨g, 0, none⟩) n c) L := by
  refine ⟨h.1, ?_⟩
  rcases h.2 with h0 | ⟨g', cap, cur, e, hg, hh, q⟩
  · exact .inl h0
  · injection e with e e2; injection e with e; injection e with e; subst e
    refine .inr ⟨g, cap, cur, ?_, hg, (Below.heap_setCell _ _ _ _ (fun e => hp e.symm)).trans hh, q⟩
    rw [← e2]
    congr 1
theorem info_z : Value.cells (.agg #[.int .i32 0, .int .i64 0, .int .i64 0, .bool false, .bool false, .bool false]) = #[.int .i32 0, .int .i64 0, .int .i64 0, .bool false, .bool false, .bool false] := by rfl
theorem newF_bad {rows cols : Int} (h : mayB rows cols = false) : newF rows cols = noF ∧ newE rows cols = 2 := by unfold newF newE; rw [h]; exact ⟨rfl, rfl⟩
theorem newF_ok {R C : Nat} (h : mayB R C = true) : newF R C = ⟨R, C, List.replicate (R * C) blankC, 0, 0⟩ ∧ newE R C = 0 := by unfold newF newE; rw [if_pos h, if_pos h]; simp
theorem may_bl (a b : Int) (x : Bool) (hx : mayB a b = x) (w : World) : Calls Tryd.prog 44 #[.int .i64 a, .int .i64 b] w fun e w' => e = .returned (.bool x) ∧ Below w.heap.size w w' :=
  (may_is a b x hx w).mono (by rintro e w' ⟨rfl, rfl⟩; exact ⟨rfl, Below.refl _ _⟩)
theorem rmay_bl (a b : Int) (x : Bool) (hx : mayB a b = x) (w : World) : Calls Tryd.prog 47 #[.int .i64 a, .int .i64 b] w fun e w' => e = .returned (.bool x) ∧ Below w.heap.size w w' :=
  (rmay_is a b x hx w).mono (by rintro e w' ⟨rfl, rfl⟩; exact ⟨rfl, Below.refl _ _⟩)
set_option maxRecDepth 100000 in
set_option maxHeartbeats 2000000 in
theorem new_frame (rows cols : Int) (w : World) (hB : BTab w) :
    Calls Tryd.prog 26 #[.int .i64 rows, .int .i64 cols] w fun e w' => ∃ v', e = .returned (.tuple #[v', .int .i64 (newE rows cols)]) ∧ FrOwn w' w.heap.size v' (newF rows cols) ∧ Below w.heap.size w w' := by
  have hlt := World.block_lt_of_cell? _ _ hB.1
  dsimp only at hlt
  have HBT := hide hB
  clear hB
  have HK := hide (Blk.new w 35 (frCells 0 0 (.slice none 0 0) 0 0))
  have HB0 := hide (show Below w.heap.size w (w.alloc (.cells (frCells 0 0 (.slice none 0 0) 0 0).toArray 35)) from (Below.refl _ _).alloc (Nat.le_refl _) _)
  by_cases hmay : mayB rows cols = true
  case neg =>
    have hm0 : mayB rows cols = false := by simpa using hmay
    have HN := hide (newF_bad hm0)
    have HM := hide hm0
    clear hm0 hmay
    go_enter Tryd.func26, Tryd.ntmps26
    go_wp2_with (first | (go_at_call 44; refine (may_bl _ _ _ HM.out _).mono ?_; rintro e w0 ⟨rfl, hb0⟩; have HK0 := hide (HK.out.below hb0); have HB := hide (HB0.out.trans (hb0.mono HB0.out.size)); obtain ⟨z0, z1, z2, z3, z4, zf⟩ := fr_reads HK0.out; have hz := HK0.out.lt; clear hb0) | fail)
    refine bodyPost_ret (results_cell_tmp rfl _ _ w.heap.size 35 (frCells 0 0 (.slice none 0 0) 0 0).toArray (0, 0) _ (.int .i64 2) rfl rfl (fr_put HK0.out 0 0 (.slice none 0 0) 0 0) Tryd.underlying35 rfl (by kernel_rfl)) rfl ⟨_, by rw [HN.out.2], by rw [HN.out.1]; exact fr_nil _ _, fr_below HB.out (Nat.le_refl _) _ _ _ _ _⟩
  case pos =>
    have HM := hide hmay
    obtain ⟨m1, m2, m3, m4⟩ := may_t.1 hmay
    obtain ⟨R, rfl⟩ : ∃ R : Nat, rows = R := ⟨rows.toNat, by omega⟩
    obtain ⟨C, rfl⟩ : ∃ C : Nat, cols = C := ⟨cols.toNat, by omega⟩
    have HN := hide (newF_ok hmay)
    obtain ⟨hs1, hs2⟩ := size_small (R := R) (C := C) (by omega) (by omega) (by omega) (by omega)
    obtain ⟨n, hn⟩ : ∃ n, R * C = n := ⟨_, rfl⟩
    rw [hn] at hs1 hs2 HN
    have hwr : IntKind.i64.wrap ((R : Int) * (C : Int)) = (n : Int) := by
      rw [show (R : Int) * (C : Int) = (n : Int) by rw [← hn]; push_cast; rfl]
      simp [IntKind.wrap_i64]; omega
    clear hmay hn
    obtain ⟨i0, hi, hz0, hz1, hz2⟩ := info_parts infoC
    go_enter Tryd.func26, Tryd.ntmps26
    go_wp2_with (first
      | (go_at_call 44; refine (may_bl _ _ _ HM.out _).mono ?_; rintro e w0 ⟨rfl, hb0⟩; have HK0 := hide (HK.out.below hb0); have HB := hide (HB0.out.trans (hb0.mono HB0.out.size)); obtain ⟨z0, z1, z2, z3, z4, zf⟩ := fr_reads HK0.out; have hz := HK0.out.lt; clear hb0)
      | (at_make; refine wpList_make_full _ rfl _ _ _ rfl (w.heap.size + 1) 82 i0 _ 6 Tryd.underlying33 hi hz0 hz1 _ _ _ _ n rfl rfl rfl rfl (by rw [hz2]; omega) (by unfold maxLen; omega) (by omega) ?_; intro w1 hown1 hgr; rw [info_z, made_zero, ← newTo_0] at hown1; obtain ⟨g, hg⟩ : ∃ g, w0.heap.size = g := ⟨_, rfl⟩; rw [hg] at hown1 ⊢; have hown := ownC_of (newTo_len (Nat.zero_le n)) (by rw [Nat.zero_add, List.nil_append]; exact hown1); have HB1 := hide (HB.out.grown hgr (by omega) (fun k e => by cases e)); have HK1 := hide (show Blk w1 w.heap.size 35 (frCells 0 0 (.slice none 0 0) 0 0) from (hgr.block _ HK0.out.lt (by simp)).trans HK0.out); have HOW := hide hown; have hgl := hown.inb; clear hown hown1 hgr)
      | fail)
    have HF2 := hide (Blk.new w1 35 (frCells R C (.slice (some ⟨g, 0, none⟩) n n) 0 0))
    have HB2 := hide (HB1.out.alloc HB1.out.size (.cells (frCells R C (.slice (some ⟨g, 0, none⟩) n n) 0 0).toArray 35))
    have HK2 := hide (HK1.out.alloc (.cells (frCells R C (.slice (some ⟨g, 0, none⟩) n n) 0 0).toArray 35))
    have HOW2 := hide (HOW.out.below ((Below.refl _ _).alloc (Nat.le_refl _) (.cells (frCells R C (.slice (some ⟨g, 0, none⟩) n n) 0 0).toArray 35)))
    have HBT2 := hide (HBT.out.below HB2.out)
    have hgw : ¬ g = w1.heap.size := by omega
    have hgw' : ¬ w1.heap.size = g := by omega
    have hgb : ¬ g = 2 := by omega
    have hgb' : ¬ 2 = g := by omega
    have hg0 : ¬ g = w.heap.size := by omega
    have hg0' : ¬ w.heap.size = g := by omega
    have hw10 : ¬ w1.heap.size = w.heap.size := by omega
    clear HB HB0 HB1 HK HK0 HK1 HOW HBT z0 z1 z2 z3 z4 zf
    go_loopw [23] (fun iv wr => ∃ i : Nat, iv = .int .i64 i ∧ i ≤ n ∧ Hid (OwnC wr (w.heap.size + 1) (.slice (some ⟨g, 0, none⟩) n n) (newTo n i)) ∧ Hid (Blk wr w.heap.size 35 (frCells 0 0 (.slice none 0 0) 0 0)) ∧ Hid (Blk wr w1.heap.size 35 (frCells R C (.slice (some ⟨g, 0, none⟩) n n) 0 0)) ∧ Hid (BTab wr) ∧ Hid (Below w.heap.size w wr)) (fun iv _ => n - (intOf iv).toNat)
    case atStart => exact ⟨0, rfl, by omega, HOW2, HK2, HF2, HBT2, HB2⟩
    case round =>
      clear HF2 HB2 HK2 HOW2 HBT2
      obtain ⟨i, rfl, hi, HOW, HK, HF, HBT, HB⟩ := hrel
      obtain ⟨f0, f1, f2, f3, f4, ff⟩ := fr_reads HF.out
      by_cases hlt2 : i < n
      · obtain ⟨t0, t1, t2, t3, t4, t5⟩ := HBT.out
        obtain ⟨X, hX⟩ : ∃ y, (newTo n i)[i]? = some y := ⟨_, List.getElem?_eq_getElem (by rw [newTo_len hi]; exact hlt2)⟩
        obtain ⟨x0, x1, x2, x3, x4, x5⟩ := HOW.out.cls.get hX
        rw [Nat.zero_add] at x0 x1 x2 x3 x4 x5
        have xf := fun i => HOW.out.frozen i
        clear hX
        go_wp2
        have hgr : wr.grownBy _ (some g) := grown6 wr g (i * 6) (i * 6 + 1) (i * 6 + 2) (i * 6 + 3) (i * 6 + 4) (i * 6 + 5) (.int .i32 32) (.int .i64 1) (.int .i64 0) (.bool false) (.bool false) (.bool false)
        go_roundw
        case rel => exact ⟨i + 1, by go_num, by omega, hide (by rw [← newTo_step hlt2]; exact own_set6 HOW.out (newTo_len hi) hlt2 blankC), hide (HK.out.grown hgr hg0'), hide (HF.out.grown hgr hgw'), hide (HBT.out.keep hgr hgb), hide (HB.out.grown hgr HB.out.size (fun k e => by cases e; omega))⟩
        case measure => simp [intOf]; omega
      · obtain rfl : i = n := by omega
        obtain ⟨z0, z1, z2, z3, z4, zf⟩ := fr_reads HK.out
        rw [newTo_all] at HOW
        go_wp2
        refine bodyPost_ret (results_cell_tmp rfl _ _ w.heap.size 35 (frCells R C (.slice (some ⟨g, 0, none⟩) i i) 0 0).toArray (0, 0) _ (.int .i64 0) rfl rfl (fr_put HK.out R C (.slice (some ⟨g, 0, none⟩) i i) 0 0) Tryd.underlying35 rfl (by kernel_rfl)) rfl ⟨_, by rw [HN.out.2], ?_, fr_below HB.out (Nat.le_refl _) _ _ _ _ _⟩
        rw [HN.out.1]
        exact (fr_own (by simp) (by unfold maxLen; omega) (fr_low HOW.out (Nat.lt_succ_self _) _ _ _ _ _)).mono (Nat.le_succ _)
theorem OwnC.formL {W : World} {B n : Nat} {v : Value} {L : List Cl} (h : OwnC W B v L) (hn : L.length = n) : ∃ A c, v = .slice A n c ∧ n ≤ c ∧ c ≤ maxLen := by
  subst hn; exact h.form2
/-- A call of a function of no arguments, as one step of a region that draws its order. -/
theorem step_fn0 {ops : Array Oper} {o : Oper} {a : Act} {W : World} {K : Act → World → Prop} {Q : Exit → Act → World → Prop} {E : Prop}
    (hgd : o.guard = none) (f : Nat) (fn : Func) (hf : Tryd.prog.funcs[f]? = some fn) (hnm : ¬ fn.name = "runtime.NumGoroutine") (hbd : ¬ fn.body = Option.none) (ty : Array TypeId) (hop : o.op = Op.call { callee := Callee.value (.func f), args := #[], argTypes := ty })
    (Post : Value → World → Prop) (hc : Calls Tryd.prog f #[] W fun e w' => ∃ v, e = .returned v ∧ Post v w')
    (hK : ∀ v w', Post v w' → K (a.put o.dst v) w') :
    if Region.wanted o (yielded ops a.tmps) = true then Oper.wp Tryd.prog o a W K Q else E := by
  have hw : Region.wanted o (yielded ops a.tmps) = true := by simp [Region.wanted, hgd]
  rw [if_pos hw]
  unfold Oper.wp
  have he : a.eval (Operand.func f) = Value.func (Fn.func f) #[] #[] := rfl
  simp [execOp, hop, resolve, invoke, he, Result.andThen, Deferred.ofValue, callFunc, hf, hnm, hbd]
  refine hc.mono ?_
  rintro e w' ⟨v, rfl, hp⟩
  exact hK v w' hp
theorem blank_v (w : World) : Calls Tryd.prog 48 #[] w fun e w' => ∃ v, e = .returned v ∧ (v = clV blankC ∧ Below w.heap.size w w') :=
  (blank_any w).mono (by rintro e w' ⟨rfl, h⟩; exact ⟨_, rfl, rfl, h⟩)
/-- One cell is hung on to a slice of the call's own: as one step of a region that draws its order. -/
theorem step_appC {ops : Array Oper} {o : Oper} {a : Act} {W : World} {K : Act → World → Prop} {Q : Exit → Act → World → Prop} {X : Prop} (hgd : o.guard = none) (s x : Operand)
    (hop : o.op = Op.call { callee := Callee.builtin Builtin.append, args := #[s, x], argTypes := #[33, 33] })
    (B : Nat) (hB : B ≤ W.heap.size) (v : Value) (L : List Cl) (c : Cl) (b cp : Nat) (hs : a.eval s = v) (hx : a.eval x = .slice (some ⟨b, 0, none⟩) 1 cp) (hown : OwnC W B v L) (hb : Blk W b 82 (clCells c)) (hlen : L.length ≤ 20000)
    (hK : ∀ v' w', OwnC w' B v' (L ++ [c]) → Below B W w' → K (a.put o.dst v') w') :
    if Region.wanted o (yielded ops a.tmps) = true then Oper.wp Tryd.prog o a W K Q else X := by
  have hw : Region.wanted o (yielded ops a.tmps) = true := by simp [Region.wanted, hgd]
  rw [if_pos hw]
  obtain ⟨i0, hi, hz0, hz1, hz2⟩ := info_parts infoC
  obtain ⟨v', w', hrun, h1, h2, -⟩ := run_append_own (P := Tryd.prog) W B 33 o.type 82 i0 _ 6 32 Tryd.underlying33 hi hz0 hz1 hz2 (by rfl) (by decide) v L.length (flatC L) hown ⟨b, 0, none⟩ 1 cp (clCells c) (by rfl)
    (fun j u hu => by have := hb.cell (i := j) hu; rw [← this]; congr 1; unfold Addr.add; split <;> simp_all) (fun u hu => by simp only [clCells, List.mem_cons, List.not_mem_nil, or_false] at hu; rcases hu with rfl | rfl | rfl | rfl | rfl | rfl <;> rfl) (by unfold maxLen; omega) (by omega) hB
  unfold Oper.wp
  simp [execOp, hop, resolve, invoke, builtin, hs, hx, hrun, Result.andThen]
  refine hK v' w' ?_ ((Below.refl _ _).grown h2 hB (fun k e => (hown.lt k e).1))
  unfold OwnC
  rw [List.length_append, show flatC (L ++ [c]) = flatC L ++ clCells c by simp [flatC]]
  exact h1
set_option maxRecDepth 100000 in
set_option maxHeartbeats 2000000 in
theorem rnew_frame (rows cols : Int) (w : World) :
    Calls Tryd.prog 27 #[.int .i64 rows, .int .i64 cols] w fun e w' => ∃ v', e = .returned (.tuple #[v', .int .i64 (newE rows cols)]) ∧ FrOwn w' w.heap.size v' (newF rows cols) ∧ Below w.heap.size w w' := by
  have HK := hide (Blk.new w 35 (frCells 0 0 (.slice none 0 0) 0 0))
  have HB0 := hide (show Below w.heap.size w (w.alloc (.cells (frCells 0 0 (.slice none 0 0) 0 0).toArray 35)) from (Below.refl _ _).alloc (Nat.le_refl _) _)
  by_cases hmay : mayB rows cols = true
  case neg =>
    have hm0 : mayB rows cols = false := by simpa using hmay
    have HN := hide (newF_bad hm0)
    have HM := hide hm0
    clear hm0 hmay
    go_enter Tryd.func27, Tryd.ntmps27
    go_wp2_with (first | (go_at_call 47; refine (rmay_bl _ _ _ HM.out _).mono ?_; rintro e w0 ⟨rfl, hb0⟩; have HK0 := hide (HK.out.below hb0); have HB := hide (HB0.out.trans (hb0.mono HB0.out.size)); obtain ⟨z0, z1, z2, z3, z4, zf⟩ := fr_reads HK0.out; have hz := HK0.out.lt; clear hb0) | fail)
    refine bodyPost_ret (results_cell_tmp rfl _ _ w.heap.size 35 (frCells 0 0 (.slice none 0 0) 0 0).toArray (0, 0) _ (.int .i64 2) rfl rfl (fr_put HK0.out 0 0 (.slice none 0 0) 0 0) Tryd.underlying35 rfl (by kernel_rfl)) rfl ⟨_, by rw [HN.out.2], by rw [HN.out.1]; exact fr_nil _ _, fr_below HB.out (Nat.le_refl _) _ _ _ _ _⟩
  case pos =>
    have HM := hide hmay
    obtain ⟨m1, m2, m3, m4⟩ := may_t.1 hmay
    obtain ⟨R, rfl⟩ : ∃ R : Nat, rows = R := ⟨rows.toNat, by omega⟩
    obtain ⟨C, rfl⟩ : ∃ C : Nat, cols = C := ⟨cols.toNat, by omega⟩
    have HN := hide (newF_ok hmay)
    obtain ⟨hs1, hs2⟩ := size_small (R := R) (C := C) (by omega) (by omega) (by omega) (by omega)
    obtain ⟨n, hn⟩ : ∃ n, R * C = n := ⟨_, rfl⟩
    rw [hn] at hs1 hs2 HN
    have hwr : IntKind.i64.wrap ((R : Int) * (C : Int)) = (n : Int) := by
      rw [show (R : Int) * (C : Int) = (n : Int) by rw [← hn]; push_cast; rfl]
      simp [IntKind.wrap_i64]; omega
    clear hmay hn
    go_enter Tryd.func27, Tryd.ntmps27
    go_wp2_with (first
      | (go_at_call 47; refine (rmay_bl _ _ _ HM.out _).mono ?_; rintro e w0 ⟨rfl, hb0⟩; have HK0 := hide (HK.out.below hb0); have HB := hide (HB0.out.trans (hb0.mono HB0.out.size)); have hz := HK0.out.lt; clear hb0)
      | fail)
    have HF2 := hide (Blk.new w0 35 (frCells R C (.slice none 0 0) 0 0))
    have HB2 := hide (HB.out.alloc HB.out.size (.cells (frCells R C (.slice none 0 0) 0 0).toArray 35))
    have HK2 := hide (HK0.out.alloc (.cells (frCells R C (.slice none 0 0) 0 0).toArray 35))
    have hw10 : ¬ w0.heap.size = w.heap.size := by omega
    clear HB HB0 HK HK0
    go_loopw [7] (fun iv wr => ∃ (i : Nat) (A : Option Addr) (c : Nat), iv = .int .i64 i ∧ i ≤ n ∧ c ≤ maxLen ∧ Hid (OwnC wr (w0.heap.size + 1) (.slice A i c) (List.replicate i blankC)) ∧ Hid (Blk wr w.heap.size 35 (frCells 0 0 (.slice none 0 0) 0 0)) ∧ Hid (Blk wr w0.heap.size 35 (frCells R C (.slice A i c) 0 0)) ∧ Hid (Below w.heap.size w wr)) (fun iv _ => n - (intOf iv).toNat)
    case atStart => exact ⟨0, none, 0, rfl, by omega, by omega, hide ⟨rfl, .inl ⟨rfl, rfl⟩⟩, HK2, HF2, HB2⟩
    case round =>
      clear HF2 HB2 HK2
      obtain ⟨i, A, c, rfl, hi, hcm, HOW, HK, HF, HB⟩ := hrel
      by_cases hlt2 : i < n
      · have f2 := HF.out.cell (i := 2) rfl
        have ff := fun i => HF.out.frozen i
        have hltz : (i : Int) < (n : Int) := by omega
        go_wp2
        have hD : w0.heap.size + 1 ≤ wr.heap.size := HF.out.lt
        go_region_law (first
            | (refine step_fn0 rfl 48 _ Tryd.func48 (by decide) (by simp [Tryd.f48]) _ rfl _ (blank_v _) ?_; rintro v4 w4 ⟨rfl, hb4⟩; have HF4 := hide ((show Blk wr.drew _ _ _ from HF.out).below hb4); have q4 := HF4.out.cell (i := 2) rfl; have HAL := hide ((Below.refl w4.heap.size w4).alloc (Nat.le_refl _) (.cells #[.int .i32 32, .int .i64 1, .int .i64 0, .bool false, .bool false, .bool false] 82)); have HF5 := hide (HF4.out.below HAL.out); have q5 := HF5.out.cell (i := 2) rfl; have HB5 := hide ((HB.out.drew.trans (hb4.mono HB.out.size)).trans (HAL.out.mono (Nat.le_trans HB.out.size hb4.size))); have HK5 := hide (((show Blk wr.drew _ _ _ from HK.out).below hb4).below HAL.out); have HOW5 := hide (((show OwnC wr.drew _ _ _ from HOW.out).below hb4).below HAL.out); have HC5 := hide (Blk.new w4 82 (clCells blankC)); have hD4 : w0.heap.size + 1 ≤ w4.heap.size := Nat.le_trans hD hb4.size; have hD5 : w0.heap.size + 1 < (w4.alloc (.cells #[.int .i32 32, .int .i64 1, .int .i64 0, .bool false, .bool false, .bool false] 82)).heap.size := (by rw [World.size_alloc]; omega); clear hb4; unfold clV blankC)
            | (refine step_appC (by rfl) (.tmp 24) (.tmp 26) (by rfl) (w0.heap.size + 1) (by simp; omega) (.slice A i c) _ blankC w4.heap.size 1 (by rfl) (by rfl) HOW5.out HC5.out (by rw [List.length_replicate]; omega) ?_; intro v6 w6 ho6 hb6; obtain ⟨A6, c6, rfl, hc6, hm6⟩ := ho6.formL (n := i + 1) (by simp); have HF6 := hide (HF5.out.under hb6 (Nat.lt_succ_self _)); have q6 := HF6.out.cell (i := 2) rfl; have HK6 := hide (HK5.out.under hb6 (by omega)); have HB6 := hide (HB5.out.trans (hb6.mono (by omega))); have HOW6 := hide ho6; have ff6 := fun i => HF6.out.frozen i; clear ho6 hb6))
        all_goals go_wp2
        all_goals exact ⟨⟨i + 1, A6, c6, by go_num, by omega, hm6, hide (by rw [List.replicate_succ']; exact HOW6.out.low (p := ⟨w0.heap.size, 2, none⟩) (Nat.lt_succ_self _) _), hide (HK6.out.far (p := ⟨w0.heap.size, 2, none⟩) hw10 _), hide (HF6.out.set 2 _), hide (HB6.out.setCell (p := ⟨w0.heap.size, 2, none⟩) (by show w.heap.size ≤ w0.heap.size; omega) _)⟩, by simp [intOf]; omega⟩
      · obtain rfl : i = n := by omega
        obtain ⟨z0, z1, z2, z3, z4, zf⟩ := fr_reads HK.out
        obtain ⟨f0, f1, f2, f3, f4, ff⟩ := fr_reads HF.out
        go_wp2
        refine bodyPost_ret (results_cell_tmp rfl _ _ w.heap.size 35 (frCells R C (.slice A i c) 0 0).toArray (0, 0) _ (.int .i64 0) rfl rfl (fr_put HK.out R C (.slice A i c) 0 0) Tryd.underlying35 rfl (by kernel_rfl)) rfl ⟨_, by rw [HN.out.2], ?_, fr_below HB.out (Nat.le_refl _) _ _ _ _ _⟩
        rw [HN.out.1]
        exact FrOwn.mono ⟨A, c, by simp [frV, frCells], hcm, by rw [List.length_replicate]; exact fr_low HOW.out (show w.heap.size < w0.heap.size + 1 by omega) _ _ _ _ _⟩ (by omega)
end Go.Proofs.YtmemdhmjhckmaaaDoor
