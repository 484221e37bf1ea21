/- The document's terminal in its box, its cells in a block of their own. The document's terminal: a line feed. Contract of grids.Put. -/
import Derived.Test.YtmemdhmjhckmaaaDoorZ18
import Derived.Test.YtmemdhmjhckmaaaDoorZ22
import Derived.Test.YtmemdhmjhckmaaaDoorZ23
import Derived.Deep.CutBlock
import Derived.Deep.DeepCutAuto
import Derived.Test.YtmemdhmjhckmaaaDoorZ7
namespace Go.Proofs.YtmemdhmjhckmaaaDoor
open Go.RowKit
set_option maxRecDepth 100000

def trC (R C n g cap row col : Nat) (T : ByteArray) (s : Cl) (wt : Bool) (bl : Nat) : List Value :=
  [.int .i64 (R : Int), .int .i64 (C : Int), .slice (some ⟨g, 0, none⟩) n cap, .int .i64 (row : Int), .int .i64 (col : Int), .string T, .int .i64 s.fg, .bool s.bo, .bool s.un, .bool s.iv, .bool wt, .int .i64 (bl : Int)]
def trCs (t : Tm) (g cap : Nat) : List Value := trC t.rows t.cols t.cs.length g cap t.row t.col (tOf t.p) t.sty t.waits t.bells
/-- The document's terminal in its box z, its cells in the block g; w0: the world ahead of both. -/
structure TrB (w0 W : World) (z g cap : Nat) (t : Tm) : Prop where
  b : Blk W z 40 (trCs t g cap)
  own : OwnC W w0.heap.size (.slice (some ⟨g, 0, none⟩) t.cs.length cap) t.cs
  hz : z ≠ g
  hB : w0.heap.size ≤ z
  below : Below w0.heap.size w0 W
  hcap : cap ≤ maxLen
theorem TrB.hG {w0 W : World} {z g cap : Nat} {t : Tm} (h : TrB w0 W z g cap t) : w0.heap.size ≤ g := h.own.base
theorem TrB.sz {w0 W : World} {z g cap : Nat} {t : Tm} (h : TrB w0 W z g cap t) : w0.heap.size ≤ W.heap.size := by have := h.b.lt; have := h.hB; omega
theorem TrB.low {w0 W V : World} {z g cap : Nat} {t : Tm} (h : TrB w0 W z g cap t) (hb : Below W.heap.size W V) : TrB w0 V z g cap t :=
  ⟨h.b.below hb, h.own.below hb, h.hz, h.hB, h.below.trans (hb.mono h.sz), h.hcap⟩
theorem TrB.keep {w0 W V : World} {z g cap z' g' : Nat} {t : Tm} (h : TrB w0 W z g cap t) (hk : K2 z' g' W V) (h1 : z ≠ z') (h2 : z ≠ g') (h3 : g ≠ z') (h4 : g ≠ g') (hB1 : w0.heap.size ≤ z') (hB2 : w0.heap.size ≤ g') : TrB w0 V z g cap t :=
  ⟨hk.blk h.b h1 h2, h.own.keepG (hk.block g h.own.ltG h3 h4), h.hz, h.hB, hk.belowB hB1 hB2 h.below h.sz, h.hcap⟩
theorem TrB.setZ {w0 W : World} {z g cap : Nat} {t : Tm} (h : TrB w0 W z g cap t) (t' : Tm) (o : Nat) (v : Value) (hs : (trCs t g cap).set o v = trCs t' g cap) (hc : t'.cs = t.cs) : TrB w0 (W.setCell ⟨z, o, none⟩ v) z g cap t' :=
  ⟨by have := h.b.set o v; rw [hs] at this; exact this, by rw [hc]; exact h.own.keepG (Below.heap_setCell _ _ _ _ h.hz.symm), h.hz, h.hB, h.below.setCell (p := ⟨z, o, none⟩) h.hB v, h.hcap⟩
theorem TrB.setG {w0 W : World} {z g cap : Nat} {t : Tm} (h : TrB w0 W z g cap t) (j : Nat) (x : Cl) (hj : j < t.cs.length) : TrB w0 (set6 W g j x) z g cap { t with cs := t.cs.set j x } := by
  have hk := set6_k2 z g j W x
  have hg := h.hG
  refine ⟨?_, ?_, h.hz, h.hB, hk.belowB h.hB hg h.below h.sz, h.hcap⟩
  · have hb : (set6 W g j x).heap[z]? = W.heap[z]? := (grown6 W g _ _ _ _ _ _ _ _ _ _ _ _).block z h.b.lt (fun e => h.hz (by injection e))
    have : trCs { t with cs := t.cs.set j x } g cap = trCs t g cap := by unfold trCs; simp
    rw [this]
    exact hb.trans h.b
  · have := own_set6 h.own rfl hj x
    show OwnC (set6 W g j x) w0.heap.size (.slice (some ⟨g, 0, none⟩) (t.cs.set j x).length cap) (t.cs.set j x)
    rw [List.length_set]
    exact this
/-- What the box reads. -/
theorem TrB.reads {w0 W : World} {z g cap : Nat} {R C : Nat} {cs : List Cl} {row col : Nat} {p : Nat × ByteArray} {s : Cl} {wt : Bool} {bl : Nat} (h : TrB w0 W z g cap ⟨R, C, cs, row, col, p, s, wt, bl⟩) :
    W.cell? ⟨z, 0, none⟩ = some (.int .i64 (R : Int)) ∧ W.cell? ⟨z, 1, none⟩ = some (.int .i64 (C : Int)) ∧ W.cell? ⟨z, 2, none⟩ = some (.slice (some ⟨g, 0, none⟩) cs.length cap) ∧ W.cell? ⟨z, 3, none⟩ = some (.int .i64 (row : Int)) ∧ W.cell? ⟨z, 4, none⟩ = some (.int .i64 (col : Int)) ∧ W.cell? ⟨z, 5, none⟩ = some (.string (tOf p)) ∧ W.cell? ⟨z, 6, none⟩ = some (.int .i64 s.fg) ∧ W.cell? ⟨z, 7, none⟩ = some (.bool s.bo) ∧ W.cell? ⟨z, 8, none⟩ = some (.bool s.un) ∧ W.cell? ⟨z, 9, none⟩ = some (.bool s.iv) ∧ W.cell? ⟨z, 10, none⟩ = some (.bool wt) ∧ W.cell? ⟨z, 11, none⟩ = some (.int .i64 (bl : Int)) :=
  ⟨h.b.cell (i := 0) rfl, h.b.cell (i := 1) rfl, h.b.cell (i := 2) rfl, h.b.cell (i := 3) rfl, h.b.cell (i := 4) rfl, h.b.cell (i := 5) rfl, h.b.cell (i := 6) rfl, h.b.cell (i := 7) rfl, h.b.cell (i := 8) rfl, h.b.cell (i := 9) rfl, h.b.cell (i := 10) rfl, h.b.cell (i := 11) rfl⟩
theorem K2.thenG {z g g1 : Nat} {A W V : World} (h : K2 z g A W) (h2 : K2 z g1 W V) (hg : g1 = g ∨ A.heap.size ≤ g1) : K2 z g A V :=
  ⟨h2.os.trans h.os, h2.tape.trans h.tape, h2.output.trans h.output, Nat.le_trans h.size h2.size, fun b hb h3 h4 => (h2.block b (Nat.lt_of_lt_of_le hb h.size) h3 (by rcases hg with rfl | hg; exact h4; omega)).trans (h.block b hb h3 h4)⟩
/-- What a method of no result does: the terminal is t' then; its cells lie where they lay, or in a new block. -/
def Mr (w0 W : World) (z g : Nat) (t' : Tm) (e : Ending) (W' : World) : Prop := e = .returned (.tuple #[]) ∧ ∃ g' cap', TrB w0 W' z g' cap' t' ∧ K2 z g W W' ∧ (g' = g ∨ W.heap.size ≤ g')
theorem Mr.mk {w0 W : World} {z g g' cap' : Nat} {t' : Tm} {W' : World} (h1 : TrB w0 W' z g' cap' t') (h2 : K2 z g W W') (h3 : g' = g ∨ W.heap.size ≤ g') : Mr w0 W z g t' (.returned (.tuple #[])) W' := ⟨rfl, g', cap', h1, h2, h3⟩
/-- The frame in the box reads as a frame. -/
theorem TrB.fr {w0 W : World} {z g cap : Nat} {R C : Nat} {cs : List Cl} {row col : Nat} {p : Nat × ByteArray} {s : Cl} {wt : Bool} {bl : Nat} (h : TrB w0 W z g cap ⟨R, C, cs, row, col, p, s, wt, bl⟩) {n : Nat} (hn : cs.length = n) :
    FrAt W (.agg #[.int .i64 (R : Int), .int .i64 (C : Int), .slice (some ⟨g, 0, none⟩) n cap, .int .i64 (row : Int), .int .i64 (col : Int)]) ⟨R, C, cs, row, col⟩ := by
  subst hn
  refine ⟨_, cap, rfl, ?_, h.hcap, h.own.cls⟩
  rcases h.own.2 with ⟨e, -⟩ | ⟨g', cap', cur, e, -, -, h1, -⟩
  · cases e
  · injection e with e1 e2 e3
    rw [e3]; exact h1
/-- A frame of its own is laid into the box. -/
theorem TrB.laid {w0 W V : World} {z g cap g' cap' n : Nat} {R C : Nat} {cs cs' : List Cl} {row col : Nat} {p : Nat × ByteArray} {s : Cl} {wt : Bool} {bl : Nat} (h : TrB w0 W z g cap ⟨R, C, cs, row, col, p, s, wt, bl⟩) (hb : Below W.heap.size W V) (hn : cs'.length = n) (hcap : cap' ≤ maxLen) (hg : W.heap.size ≤ g')
    (ho : OwnC V W.heap.size (.slice (some ⟨g', 0, none⟩) n cap') cs') :
    TrB w0 (((((V.setCell ⟨z, 0, none⟩ (.int .i64 (R : Int))).setCell ⟨z, 1, none⟩ (.int .i64 (C : Int))).setCell ⟨z, 2, none⟩ (.slice (some ⟨g', 0, none⟩) n cap')).setCell ⟨z, 3, none⟩ (.int .i64 (row : Int))).setCell ⟨z, 4, none⟩ (.int .i64 (col : Int))) z g' cap' ⟨R, C, cs', row, col, p, s, wt, bl⟩ ∧
    K2 z g W (((((V.setCell ⟨z, 0, none⟩ (.int .i64 (R : Int))).setCell ⟨z, 1, none⟩ (.int .i64 (C : Int))).setCell ⟨z, 2, none⟩ (.slice (some ⟨g', 0, none⟩) n cap')).setCell ⟨z, 3, none⟩ (.int .i64 (row : Int))).setCell ⟨z, 4, none⟩ (.int .i64 (col : Int))) := by
  subst hn
  have h1 := h.low hb
  have hzl := h.b.lt
  have hz0 := h.hB
  have hsz := h.sz
  have hzg : z ≠ g' := by omega
  have keepS : ∀ (U : World) (o : Nat) (v : Value), OwnC U w0.heap.size (.slice (some ⟨g', 0, none⟩) cs'.length cap') cs' → OwnC (U.setCell ⟨z, o, none⟩ v) w0.heap.size (.slice (some ⟨g', 0, none⟩) cs'.length cap') cs' := fun U o v h => h.keepG (Below.heap_setCell _ _ _ _ hzg.symm)
  have ho0 : OwnC V w0.heap.size (.slice (some ⟨g', 0, none⟩) cs'.length cap') cs' := by
    refine ⟨ho.1, ?_⟩
    rcases ho.2 with h0 | ⟨g9, cap9, cur9, e9, hg9, r9⟩
    · exact .inl h0
    · exact .inr ⟨g9, cap9, cur9, e9, by omega, r9⟩
  refine ⟨⟨?_, ?_, hzg, hz0, ?_, hcap⟩, ?_⟩
  · exact ((((h1.b.set 0 _).set 1 _).set 2 _).set 3 _).set 4 _
  · exact keepS _ _ _ (keepS _ _ _ (keepS _ _ _ (keepS _ _ _ (keepS _ _ _ ho0))))
  · exact ((((h1.below.setCell (p := ⟨z, 0, none⟩) hz0 _).setCell (p := ⟨z, 1, none⟩) hz0 _).setCell (p := ⟨z, 2, none⟩) hz0 _).setCell (p := ⟨z, 3, none⟩) hz0 _).setCell (p := ⟨z, 4, none⟩) hz0 _
  · exact (K2.of hb).trans (((((K2.set z g 0 _ _).trans (K2.set z g 1 _ _)).trans (K2.set z g 2 _ _)).trans (K2.set z g 3 _ _)).trans (K2.set z g 4 _ _))
/-- A call of a Go function of two arguments, as a step of a region that draws its order. -/
theorem step_fnR {ops : Array Oper} {o : Oper} {a : Act} {W : World} {K : Act → World → Prop} {Q : Exit → Act → World → Prop} {E : Prop}
    (hgd : o.guard = none) (f : Nat) (fn : Func) (hf : Tryd.prog.funcs[f]? = some fn) (hnm : ¬ fn.name = "runtime.NumGoroutine") (hbd : ¬ fn.body = Option.none) (x y : Operand) (ty : Array TypeId) (hop : o.op = Op.call { callee := Callee.value (.func f), args := #[x, y], argTypes := ty })
    (vx vy : Value) (hx : a.eval x = vx) (hy : a.eval y = vy) (Post : Value → World → Prop) (hc : Calls Tryd.prog f #[vx, vy] W fun e w' => ∃ v, e = .returned v ∧ Post v w')
    (hK : ∀ v w', Post v w' → K (a.put o.dst v) w') :
    if Region.wanted o (yielded ops a.tmps) = true then Oper.wp Tryd.prog o a W K Q else E := by
  have hw : Region.wanted o (yielded ops a.tmps) = true := by simp [Region.wanted, hgd]
  rw [if_pos hw]
  unfold Oper.wp
  have he : a.eval (Operand.func f) = Value.func (Fn.func f) #[] #[] := rfl
  simp [execOp, hop, resolve, invoke, hx, hy, he, Result.andThen, Deferred.ofValue, callFunc, hf, hnm, hbd]
  refine hc.mono ?_
  rintro e w' ⟨v, rfl, hp⟩
  exact hK v w' hp
/-- Put of the document, at a place of a terminal's frame that may be. -/
theorem put_form {t : Tm} (h : Inv t) {r : Int} {m row col : Nat} {x : Cl} (hx : x.r = r) (hm : m = 1 ∨ m = 2) (hr : cells r = m) (hrow : row < t.rows) (hc : col + m ≤ t.cols) (hs : styC x = true) :
    putF (frM t) row col x = ⟨t.rows, t.cols, putL t.cs (row * t.cols + col) m (inkT r m x), t.row, t.col⟩ := by
  have hv := h.fr
  subst hx
  have hok : okP (frM t) row col x = true := by
    unfold okP
    simp only [Bool.and_eq_true, decide_eq_true_eq]
    refine ⟨⟨by omega, hs⟩, ?_⟩
    show (0 : Int) ≤ (row : Int) ∧ (row : Int) < (t.rows : Int) ∧ (0 : Int) ≤ (col : Int) ∧ (col : Int) + cells x.r ≤ (t.cols : Int)
    omega
  unfold putF
  rw [hv, hok, if_pos rfl, if_pos rfl]
  have e1 : ((row : Int) * (frM t).cols + (col : Int)).toNat = row * t.cols + col := by
    have : (row : Int) * (frM t).cols + (col : Int) = ((row * t.cols + col : Nat) : Int) := by show (row : Int) * (t.cols : Int) + (col : Int) = _; push_cast; rfl
    rw [this]; rfl
  have e2 : (cells x.r).toNat = m := by rw [hr]; rfl
  have e3 : inkC x = inkT x.r m x := by unfold inkC inkT; rw [hr]
  rw [e1, e2, e3]
  rfl
end Go.Proofs.YtmemdhmjhckmaaaDoor
namespace Go.Proofs.YtmemdhmjhckmaaaDoor
open Go.RowKit
set_option maxRecDepth 100000

/-- The new frame's cells, k of them copied. -/
def fdR (L : List Cl) (C k n : Nat) : List Cl := (L.drop C).take k ++ List.replicate (n - k) blankC
theorem fdR_len {L : List Cl} {C k n : Nat} (hn : L.length = n) (hk : C + k ≤ n) : (fdR L C k n).length = n := by
  unfold fdR
  rw [List.length_append, List.length_take, List.length_drop, List.length_replicate]
  omega
theorem fdR_step {L : List Cl} {C k n : Nat} (hn : L.length = n) (hk : C + k < n) {x : Cl} (hx : L[C + k]? = some x) : (fdR L C k n).set k x = fdR L C (k + 1) n := by
  have hl : ((L.drop C).take k).length = k := by rw [List.length_take, List.length_drop]; omega
  unfold fdR
  rw [List.set_append_right _ _ (by omega), hl, Nat.sub_self, List.take_add_one, List.getElem?_drop, hx]
  obtain ⟨m, hm⟩ : ∃ m, n - k = m + 1 := ⟨n - k - 1, by omega⟩
  rw [hm, List.replicate_succ, List.set_cons_zero, show n - (k + 1) = m by omega]
  simp
theorem fdR_zero (L : List Cl) (C n : Nat) : fdR L C 0 n = List.replicate n blankC := by simp [fdR]
theorem fdR_end {L : List Cl} {C k n : Nat} (hn : L.length = n) (hk : C + k = n) : fdR L C k n = L.drop C ++ List.replicate C blankC := by
  unfold fdR
  rw [List.take_of_length_le (by rw [List.length_drop]; omega), show n - k = C by omega]
/-- The new frame in its box y, its cells in a block of their own. -/
structure FdS (W V : World) (y g' cap' R C n : Nat) (L : List Cl) : Prop where
  b : Blk V y 35 (frCells R C (.slice (some ⟨g', 0, none⟩) n cap') 0 0)
  own : OwnC V W.heap.size (.slice (some ⟨g', 0, none⟩) n cap') L
  below : Below W.heap.size W V
  hy : W.heap.size ≤ y
  hg : W.heap.size ≤ g'
  ne : y ≠ g'
  hcap : cap' ≤ maxLen
theorem FdS.call {W w1 : World} {g' cap' R C n : Nat} {L : List Cl} (hb : Below W.heap.size W w1) (ho : OwnC w1 W.heap.size (.slice (some ⟨g', 0, none⟩) n cap') L) (hg : W.heap.size ≤ g') (hc : cap' ≤ maxLen) :
    FdS W (w1.alloc (.cells #[.int .i64 (R : Int), .int .i64 (C : Int), .slice (some ⟨g', 0, none⟩) n cap', .int .i64 0, .int .i64 0] 35)) w1.heap.size g' cap' R C n L :=
  ⟨Blk.new w1 35 (frCells R C (.slice (some ⟨g', 0, none⟩) n cap') 0 0), ho.below ((Below.refl _ _).alloc (Nat.le_refl _) _), hb.alloc hb.size _, hb.size, hg, by have := ho.ltG; omega, hc⟩
theorem FdS.made {W w1 : World} {y g' cap' R C n : Nat} {L : List Cl} (h1 : Blk w1 y 35 (frCells 0 0 (.slice none 0 0) 0 0)) (hb : Below W.heap.size W w1) (ho : OwnC w1 (y + 1) (.slice (some ⟨g', 0, none⟩) n cap') L) (hg : y + 1 ≤ g') (hc : cap' ≤ maxLen) (hy : W.heap.size ≤ y) :
    FdS W (((((w1.setCell ⟨y, 0, none⟩ (.int .i64 (R : Int))).setCell ⟨y, 1, none⟩ (.int .i64 (C : Int))).setCell ⟨y, 2, none⟩ (.slice (some ⟨g', 0, none⟩) n cap')).setCell ⟨y, 3, none⟩ (.int .i64 0)).setCell ⟨y, 4, none⟩ (.int .i64 0)) y g' cap' R C n L := by
  show FdS W (frSet w1 y (R : Int) (C : Int) (.slice (some ⟨g', 0, none⟩) n cap') 0 0) y g' cap' R C n L
  exact ⟨fr_put h1 (R : Int) (C : Int) (.slice (some ⟨g', 0, none⟩) n cap') 0 0, (fr_low ho (Nat.lt_succ_self y) (R : Int) (C : Int) (.slice (some ⟨g', 0, none⟩) n cap') 0 0).mono (Nat.le_trans hy (Nat.le_succ _)), fr_below hb hy (R : Int) (C : Int) (.slice (some ⟨g', 0, none⟩) n cap') 0 0, hy, by omega, by omega, hc⟩
theorem FdS.lay {W V : World} {y g' cap' R C n : Nat} {L : List Cl} (h : FdS W V y g' cap' R C n L) (hn : L.length = n) (j : Nat) (r w fg : Int) (bo un iv : Bool) (hj : j < n) :
    FdS W ((((((V.setCell ⟨g', j * 6, none⟩ (.int .i32 r)).setCell ⟨g', j * 6 + 1, none⟩ (.int .i64 w)).setCell ⟨g', j * 6 + 2, none⟩ (.int .i64 fg)).setCell ⟨g', j * 6 + 3, none⟩ (.bool bo)).setCell ⟨g', j * 6 + 4, none⟩ (.bool un)).setCell ⟨g', j * 6 + 5, none⟩ (.bool iv)).drew y g' cap' R C n (L.set j ⟨r, w, fg, bo, un, iv⟩) ∧
    K2 g' g' V ((((((V.setCell ⟨g', j * 6, none⟩ (.int .i32 r)).setCell ⟨g', j * 6 + 1, none⟩ (.int .i64 w)).setCell ⟨g', j * 6 + 2, none⟩ (.int .i64 fg)).setCell ⟨g', j * 6 + 3, none⟩ (.bool bo)).setCell ⟨g', j * 6 + 4, none⟩ (.bool un)).setCell ⟨g', j * 6 + 5, none⟩ (.bool iv)).drew := by
  have hk0 := set6_k2 g' g' j V ⟨r, w, fg, bo, un, iv⟩
  have ho := own_set6 h.own hn (j := j) (by first | exact hj | (rw [hn]; exact hj)) ⟨r, w, fg, bo, un, iv⟩
  have hb0 := hk0.blk h.b h.ne h.ne
  have hl0 := hk0.belowB h.hg h.hg h.below h.below.size
  unfold set6 at hk0 hb0 hl0
  dsimp only at hk0 hb0 hl0 ho
  exact ⟨⟨hb0.below (Below.refl _ _).drew, ho.below (Below.refl _ _).drew, hl0.drew, h.hy, h.hg, h.ne, h.hcap⟩, hk0.trans K2.drew⟩
theorem sizeD0 (W : World) : W.drew.drew.heap.size = W.heap.size := rfl
theorem below_drew2 {W w1 : World} (h : Below W.drew.drew.heap.size W.drew.drew w1) : Below W.heap.size W w1 := ((Below.refl W.heap.size W).drew.drew).trans h
theorem size2 (W : World) (o : Obj) : (W.alloc o).drew.drew.heap.size = W.heap.size + 1 := by simp
theorem made_keeps {W w1 : World} (hb : Below (W.alloc (.cells #[.int .i64 0, .int .i64 0, .slice none 0 0, .int .i64 0, .int .i64 0] 35)).drew.drew.heap.size (W.alloc (.cells #[.int .i64 0, .int .i64 0, .slice none 0 0, .int .i64 0, .int .i64 0] 35)).drew.drew w1) :
    Blk w1 W.heap.size 35 (frCells 0 0 (.slice none 0 0) 0 0) ∧ Below W.heap.size W w1 := by
  have h0 : Blk (W.alloc (.cells #[.int .i64 0, .int .i64 0, .slice none 0 0, .int .i64 0, .int .i64 0] 35)).drew.drew W.heap.size 35 (frCells 0 0 (.slice none 0 0) 0 0) := Blk.new W 35 (frCells 0 0 (.slice none 0 0) 0 0)
  exact ⟨h0.below hb, (((Below.refl W.heap.size W).alloc (Nat.le_refl _) (.cells #[.int .i64 0, .int .i64 0, .slice none 0 0, .int .i64 0, .int .i64 0] 35)).drew.drew).trans (hb.mono (by rw [size2]; exact Nat.le_succ _))⟩
/-- The new cells are the terminal's. -/
theorem TrB.swap {w0 V : World} {z g cap g' cap' n : Nat} {t : Tm} {cs' : List Cl} (h : TrB w0 V z g cap t) (ho : OwnC V w0.heap.size (.slice (some ⟨g', 0, none⟩) n cap') cs') (hn : cs'.length = n) (hz : z ≠ g') (hc : cap' ≤ maxLen) :
    TrB w0 (V.setCell ⟨z, 2, none⟩ (.slice (some ⟨g', 0, none⟩) n cap')) z g' cap' { t with cs := cs' } := by
  subst hn
  exact ⟨h.b.set 2 _, ho.keepG (Below.heap_setCell _ _ _ _ hz.symm), hz, h.hB, h.below.setCell (p := ⟨z, 2, none⟩) h.hB _, hc⟩
set_option maxHeartbeats 4000000 in
theorem rtfeed_any {w0 W : World} {z g cap : Nat} (t : Tm) (h : TrB w0 W z g cap t) (hI : Inv t) :
    Calls Tryd.prog 34 #[.pointer (some ⟨z, 0, none⟩)] W (Mr w0 W z g (feedM t)) := by
  have hIR := hI.hR
  have hIC := hI.hC
  have hIL := hI.hL
  have hrw := hI.hrow
  obtain ⟨R, C, cs, row, col, p, s, wt, bl⟩ := t
  dsimp only at hIR hIC hIL hrw
  obtain ⟨n, hne⟩ : ∃ n, R * C = n := ⟨_, rfl⟩
  have hn0 : 0 < n := by rw [← hne]; exact Nat.mul_pos (by omega) (by omega)
  have hn9 : n ≤ 20000 := by rw [← hne]; exact Nat.le_trans (Nat.mul_le_mul hIR.2 hIC.2) (by decide)
  have hCn : C + 1 ≤ n := by
    rw [← hne]
    have : 2 * C ≤ R * C := Nat.mul_le_mul_right _ hIR.1
    omega
  have hm : mayB (R : Int) (C : Int) = true := by unfold mayB; simp; omega
  obtain ⟨hnf, hnE⟩ := newF_ok hm
  have HNF := hide (fun V => rnew_frame R C V)
  rw [hnf, hnE, hne] at HNF
  rw [hne] at hIL
  obtain ⟨c0, c1, c2, c3, c4, -⟩ := h.reads
  have bf := fun i => h.b.frozen i
  rw [hIL] at c2
  have HN := hide hIL
  have H := hide h
  clear h hI hnf hnE hne hm hIL
  by_cases hrow : row + 1 < R
  · have q1 : (row : Int) + 1 < (R : Int) := by omega
    have q2 : (row : Int) < (R : Int) - 1 := by omega
    have HS := hide (H.out.low ((Below.refl _ _).drew))
    have HE := hide (show feedM ⟨R, C, cs, row, col, p, s, wt, bl⟩ = ⟨R, C, cs, row + 1, col, p, s, wt, bl⟩ by unfold feedM; rw [if_pos hrow])
    have HZ := hide (HS.out.setZ ⟨R, C, cs, row + 1, col, p, s, wt, bl⟩ 3 (.int .i64 ((row + 1 : Nat) : Int)) rfl rfl)
    go_enter Tryd.func34, Tryd.ntmps34
    go_wp2_with fail
    go_region
    go_wp2
    go_end0
    rw [HE.out]
    exact Mr.mk HZ.out (K2.drew.trans (K2.set _ _ _ _ _)) (.inl rfl)
  · have q1 : ¬ (row : Int) + 1 < (R : Int) := by omega
    have q2 : ¬ (row : Int) < (R : Int) - 1 := by omega
    have HNG := hide (fun V => (HNF.out V).mono (show ∀ e w', _ → ∃ v, e = .returned v ∧ ∃ g' cap', v = .tuple #[.agg #[.int .i64 (R : Int), .int .i64 (C : Int), .slice (some ⟨g', 0, none⟩) n cap', .int .i64 0, .int .i64 0], .int .i64 0] ∧ cap' ≤ maxLen ∧ OwnC w' V.heap.size (.slice (some ⟨g', 0, none⟩) n cap') (List.replicate n blankC) ∧ V.heap.size ≤ g' ∧ Below V.heap.size V w' from by
      rintro e w' ⟨v', rfl, hf, hb1⟩
      obtain ⟨g', cap', rfl, hcap', hown, hg'⟩ := hf.open (n := n) (by simp) hn0
      exact ⟨_, rfl, g', cap', rfl, hcap', hown, hg', hb1⟩))
    have HE := hide (show feedM ⟨R, C, cs, row, col, p, s, wt, bl⟩ = ⟨R, C, cs.drop C ++ List.replicate C blankC, row, col, p, s, wt, bl⟩ by unfold feedM; rw [if_neg hrow])
    go_enter Tryd.func34, Tryd.ntmps34
    go_wp2_with fail
    go_region
    go_wp2_with fail
    have hzl := H.out.b.lt
    go_cut [2] (fun a wx => ∃ (y g' cap' : Nat), a = .pointer (some ⟨y, 0, none⟩) ∧ Hid (FdS W wx y g' cap' R C n (List.replicate n blankC)))
    case first =>
      have hzn : ¬ z = W.heap.size := by omega
      have HA := hide (H.out.low ((Below.refl W.heap.size W).alloc (Nat.le_refl _) (.cells (frCells 0 0 (.slice none 0 0) 0 0).toArray 35)))
      obtain ⟨a0, a1, -⟩ := HA.out.reads
      unfold frCells at a0 a1
      simp only [List.toArray] at a0 a1
      go_region_law (first
        | (refine step_fnR rfl 27 _ Tryd.func27 (by decide) (by simp [Tryd.f27]) (.tmp 31) (.tmp 36) _ rfl _ _ (by rfl) (by rfl) _ (HNG.out _) ?_; rintro v1 w1 ⟨g', cap', rfl, hcap', hown, hg', hb1⟩; have HOW := hide hown; have HB1 := hide hb1; (try (have hb9 : Below (W.alloc (.cells #[.int .i64 0, .int .i64 0, .slice none 0 0, .int .i64 0, .int .i64 0] 35)).drew.drew.heap.size (W.alloc (.cells #[.int .i64 0, .int .i64 0, .slice none 0 0, .int .i64 0, .int .i64 0] 35)).drew.drew w1 := (by with_reducible exact hb1); obtain ⟨hf9, hl9⟩ := made_keeps hb9; have HF1 := hide hf9; have HL1 := hide hl9; obtain ⟨k0, k1, k2, k3, k4, kf⟩ := fr_reads HF1.out; clear hb9 hf9 hl9)); clear hown hb1))
      all_goals go_wp2_with fail
      all_goals go_meet
      all_goals refine ⟨_, g', cap', rfl, hide ?_⟩
      all_goals first
        | (with_reducible refine FdS.made HF1.out HL1.out ?_ ?_ hcap' (Nat.le_refl _)
           · have h := HOW.out
             rw [size2] at h
             exact h
           · have h := hg'
             rw [size2] at h
             exact h)
        | exact FdS.call (below_drew2 HB1.out) (by have h := HOW.out; rw [sizeD0] at h; exact h) (by have h := hg'; rw [sizeD0] at h; exact h) hcap'
    case rest =>
      obtain ⟨y, g', cap', rfl, HF⟩ := hcut
      have hgl := H.out.own.ltG
      have HT := hide (H.out.low HF.out.below)
      have hyl := HF.out.hy
      have hgl2 := HF.out.hg
      have hz1 : z ≠ g' := by omega
      have hz2 : g ≠ g' := by omega
      have hw0 := H.out.sz
      obtain ⟨-, a1, a2, -⟩ := HT.out.reads
      rw [HN.out] at a2
      rw [← fdR_zero cs C n] at HF
      clear c0 c1 c2 c3 c4 bf HNG
      go_wp2_with fail
      go_loopw [4] (fun iv wr => ∃ k i : Nat, iv = .int .i64 (i : Int) ∧ C + k ≤ n ∧ Hid (C + k = i) ∧ Hid (TrB w0 wr z g cap ⟨R, C, cs, row, col, p, s, wt, bl⟩) ∧ Hid (FdS W wr y g' cap' R C n (fdR cs C k n))) (fun iv _ => n - (intOf iv).toNat)
      case atStart => exact ⟨0, C, rfl, by omega, hide rfl, HT, HF⟩
      case round =>
        clear HT HF a1 a2
        obtain ⟨k, i, rfl, hk, HI, HT, HF⟩ := hrel
        have hI := HI.out
        obtain ⟨-, a1, a2, -⟩ := HT.out.reads
        rw [HN.out] at a2
        obtain ⟨k0, k1, k2, k3, k4, kf⟩ := fr_reads HF.out.b
        have hlen := fdR_len (L := cs) (C := C) (k := k) HN.out hk
        by_cases hlt : i < n
        · have hin : (i : Int) < (n : Int) := by omega
          have hkn : (k : Int) < (n : Int) := by omega
          have hk0 : (0 : Int) ≤ (k : Int) := by omega
          have hw : IntKind.i64.wrap ((i : Int) - (C : Int)) = (k : Int) := by simp only [IntKind.wrap_i64]; omega
          obtain ⟨x, hx⟩ : ∃ x, cs[i]? = some x := ⟨_, List.getElem?_eq_getElem (by rw [HN.out]; exact hlt)⟩
          obtain ⟨x0, x1, x2, x3, x4, x5⟩ := own_reads HT.out.own hx
          have hx2 : cs[C + k]? = some x := by rw [hI]; exact hx
          have HST := hide (fdR_step HN.out (by omega) hx2)
          obtain ⟨d, hd⟩ : ∃ d, (fdR cs C k n)[k]? = some d := ⟨_, List.getElem?_eq_getElem (by rw [hlen]; omega)⟩
          obtain ⟨y0, y1, y2, y3, y4, y5⟩ := own_reads HF.out.own hd
          have df := fun i => HF.out.own.frozen i
          obtain ⟨xr, xw, xf, xb, xu, xi⟩ := x
          dsimp only at x0 x1 x2 x3 x4 x5
          have HLN := hide hlen
          have hCk : C + (k + 1) ≤ n := by omega
          clear hx hx2 hd hlen hI
          go_wp2_with fail
          go_region
          obtain ⟨V, hV, F2, K3⟩ := named (R := fun V => FdS W V y g' cap' R C n _ ∧ K2 g' g' wr V) (HF.out.lay HLN.out k xr xw xf xb xu xi (by omega))
          rw [hV]
          rw [HST.out] at F2
          have F2 := hide F2
          have T2 := hide (HT.out.keep K3 hz1 hz1 hz2 hz2 (by omega) (by omega))
          clear hV K3 x0 x1 x2 x3 x4 x5 y0 y1 y2 y3 y4 y5 df HF HT
          go_wp2
          exact ⟨⟨k + 1, i + 1, by go_num, by omega, hide (by have := HI.out; omega), T2, F2⟩, by simp [intOf]; omega⟩
        · have hin : ¬ (i : Int) < (n : Int) := by omega
          have HEE := hide (fdR_end (L := cs) (C := C) (k := k) HN.out (by omega))
          have HLN := hide hlen
          have bf := fun i => HT.out.b.frozen i
          clear hlen hI
          go_wp2
          go_end0
          have ho0 : OwnC wr w0.heap.size (.slice (some ⟨g', 0, none⟩) n cap') (fdR cs C k n) := HF.out.own.mono hw0
          have hfin := HT.out.swap ho0 HLN.out hz1 HF.out.hcap
          rw [HEE.out] at hfin
          rw [HE.out]
          exact Mr.mk hfin ((K2.of HF.out.below).trans (K2.set _ _ _ _ _)) (.inr hgl2)
end Go.Proofs.YtmemdhmjhckmaaaDoor
namespace Go.Proofs.YtmemdhmjhckmaaaDoor
open Go.RowKit

theorem putF_bad {f : Fr} {row col : Int} {x : Cl} (h : validF f = false) : putF f row col x = noF := by unfold putF; rw [h]; rfl
theorem putF_not {f : Fr} {row col : Int} {x : Cl} (h : validF f = true) (hk : okP f row col x = false) : putF f row col x = f := by unfold putF; rw [if_pos h, hk]; rfl
theorem putF_ok {f : Fr} {row col : Int} {x : Cl} (h : validF f = true) (hk : okP f row col x = true) : putF f row col x = ⟨f.rows, f.cols, putL f.cs (row * f.cols + col).toNat (cells x.r).toNat (inkC x), f.row, f.col⟩ := by unfold putF; rw [if_pos h, if_pos hk]
end Go.Proofs.YtmemdhmjhckmaaaDoor
