/- Contracts of (*layout.sheet).col and put. Contracts of (*layout.sheet).fits and line. Contracts of (*layout.sheet).line, widths.Tab and (*layout.sheet).rune. Contract of widths.Shown. Contract of (*layout.sheet).rune. Contract of limnerref01.begin. Contract of limnerref01.Next. Contract of (*layout.sheet).prompt. Contract of (layout.View).style. Contract of codes.Next. Contract of limnerref01.Starts. More plain facts on UTF-8: what is encoded is decoded. No program in sight. -/
import Derived.Test.YtmpajkfbiocmiaaDoorZ2
import Derived.Deep.RegionHeld3
import Derived.Test.YtmpajkfbiocmiaaDoorZ1
import Derived.Laws.BitsAllLaws
import Derived.WideShapes
import Derived.Lib.RuneCount
import Derived.Laws.RangeAny
import Derived.Lib.OthersKept
import Derived.Test.YtmpajkfbiocmiaaDoorShelf
import Derived.Lib.RuneCountTail
import Derived.Laws.OwnMore
import Derived.Maps.AppendAt
import Derived.OwnWalk
namespace Go.Proofs.YtmpajkfbiocmiaaDoor
open Go.RowKit

/-- A style. -/
abbrev Sty := Int × Bool × Bool × Bool
def mkC (r w : Int) (s : Sty) : Cl := ⟨r, w, s.1, s.2.1, s.2.2.1, s.2.2.2⟩
def styA (s : Sty) : Value := .agg #[.int .i64 s.1, .bool s.2.1, .bool s.2.2.1, .bool s.2.2.2]
def noSt : Sty := (0, false, false, false)
/-- A rune is laid. -/
def putY (L : List Cl) (r w : Int) (s : Sty) : List Cl := if w = 2 then L ++ [mkC r w s] ++ [mkC 0 0 s] else L ++ [mkC r w s]
theorem putY_len (L : List Cl) (r w : Int) (s : Sty) : (putY L r w s).length ≤ L.length + 2 := by unfold putY; split <;> simp
theorem mod_int (a b : Nat) : ((a : Int) % (b : Int)) = ((a % b : Nat) : Int) := by push_cast; rfl
theorem col_any (p C : Nat) (L : List Cl) (w : World) (h : Sh w p C L) (hC : 2 ≤ C) (hC2 : C ≤ 1000) :
    Calls Tryd.prog 32 #[.pointer (some ⟨p, 0, none⟩)] w fun e w' => e = .returned (.int .i64 ((L.length % C : Nat) : Int)) ∧ Below w.heap.size w w' := by
  obtain ⟨A, n, c, hn, h1, h2, r0, r1, -, -, -⟩ := h.reads
  have hr0 := hide r0
  unfold maxLen at h2
  rw [← hn]
  have hc0 : ¬ (C : Int) = 0 := by omega
  have hm := mod_int n C
  clear h hn
  go_enter Tryd.func32, Tryd.ntmps32
  go_wp2
  go_quiet (fail)
  go_wp2
  go_ret
  exact ⟨ret_cells hm, below_drewN (Below.refl _ _) _⟩
set_option maxHeartbeats 2000000 in
set_option maxRecDepth 100000 in
theorem sput_one (p C : Nat) (L : List Cl) (r n fg : Int) (bo un iv : Bool) (w : World) (h : Sh w p C L) (hL : L.length ≤ 10000000) (hn : ¬ n = 2) :
    Calls Tryd.prog 34 #[.pointer (some ⟨p, 0, none⟩), .int .i32 r, .int .i64 n, .agg #[.int .i64 fg, .bool bo, .bool un, .bool iv]] w fun e w' => e = .returned (.tuple #[]) ∧ Sh w' p C (putY L r n (fg, bo, un, iv)) ∧ KeepC p w w' := by
  have HW1 := hide (Blk.new w 28 [.int .i64 fg, .bool bo, .bool un, .bool iv])
  have hb0 : Below w.heap.size w (w.alloc (.cells #[.int .i64 fg, .bool bo, .bool un, .bool iv] 28)) := (Below.refl _ _).alloc (Nat.le_refl _) _
  have HS0 := hide (h.of hb0)
  have HK0 := hide (KeepC.of (p := p) hb0)
  have hpw := h.lt
  have hn3 : (n == 2) = false := by simpa using hn
  have HN := hide hn
  clear hn
  clear h
  go_enter Tryd.func34, Tryd.ntmps34
  go_wp2
  obtain ⟨z, hz⟩ : ∃ z, w.heap.size = z := ⟨_, rfl⟩
  obtain ⟨W1, hW1⟩ : ∃ W, w.alloc (.cells #[.int .i64 fg, .bool bo, .bool un, .bool iv] 28) = W := ⟨_, rfl⟩
  have hpz : z ≠ p := by omega
  rw [hz] at HW1
  rw [show w.alloc (.cells [.int .i64 fg, .bool bo, .bool un, .bool iv].toArray 28) = W1 from hW1] at HW1
  rw [hW1] at HS0 HK0
  first | rw [hz, hW1] | rw [hW1]
  clear hb0 hW1 hz hpw
  obtain ⟨A1, m1, cp1, hm1, hc1, -, -, r1, rf1, hbk1, how1⟩ := HS0.out.reads
  have s10 := HW1.out.cell (i := 0) rfl
  have s11 := HW1.out.cell (i := 1) rfl
  have s12 := HW1.out.cell (i := 2) rfl
  have s13 := HW1.out.cell (i := 3) rfl
  have hpl1 := HS0.out.lt
  have hbl1 : Below W1.heap.size W1 (W1.alloc (.cells (clCells (mkC r n (fg, bo, un, iv))).toArray 39)).drew := ((Below.refl W1.heap.size W1).alloc (Nat.le_refl _) _).drew
  have HC1 := hide (show Blk (W1.alloc (.cells (clCells (mkC r n (fg, bo, un, iv))).toArray 39)).drew W1.heap.size 39 (clCells (mkC r n (fg, bo, un, iv))) from Blk.new W1 _ _)
  have HO1 := hide (how1.below hbl1)
  have HB1 := hide (hbk1.below hbl1)
  have HKb1 := hide (KeepC.of (p := p) hbl1)
  have hll1 : (L).length ≤ 100000000 := by first | omega | (rw [List.length_append]; simp only [List.length_cons, List.length_nil]; omega)
  obtain ⟨k1, hk1⟩ : ∃ k, (L ++ [(mkC r n (fg, bo, un, iv))]).length = k := ⟨_, rfl⟩
  have HL1 := hide hk1
  clear hbk1 how1 hbl1 hm1 hk1
  go_region_law (refine step_appY (by rfl) (.tmp 12) (.tmp 17) (by rfl) (p + 1) (by simp; omega) (.slice A1 m1 cp1) _ (mkC r n (fg, bo, un, iv)) W1.heap.size 1 (by simp [Act.eval, Act.put]) (by simp [Act.eval, Act.put]) HO1.out HC1.out hll1 ?_; intro v1 w1 ho1 hg1; obtain ⟨B1, c1, rfl, -, -⟩ := ho1.formL HL1.out; have HA1 := hide (Sh.app HB1.out HO1.out ho1 hg1); have HM1 := hide (Sh.mid HB1.out HO1.out hg1); have q1 := HM1.out.cell (i := 1) rfl; have ff1 := fun i => HM1.out.frozen i; clear ho1 hg1)
  all_goals go_wp2
  all_goals go_end0
  all_goals exact ⟨rfl, by unfold putY; rw [if_neg HN.out]; exact HA1.out.1, (HK0.out.trans HKb1.out).trans HA1.out.2⟩
set_option maxHeartbeats 2000000 in
set_option maxRecDepth 100000 in
theorem sput_two (p C : Nat) (L : List Cl) (r fg : Int) (bo un iv : Bool) (w : World) (h : Sh w p C L) (hL : L.length ≤ 10000000) :
    Calls Tryd.prog 34 #[.pointer (some ⟨p, 0, none⟩), .int .i32 r, .int .i64 2, .agg #[.int .i64 fg, .bool bo, .bool un, .bool iv]] w fun e w' => e = .returned (.tuple #[]) ∧ Sh w' p C (putY L r 2 (fg, bo, un, iv)) ∧ KeepC p w w' := by
  have HW1 := hide (Blk.new w 28 [.int .i64 fg, .bool bo, .bool un, .bool iv])
  have hb0 : Below w.heap.size w (w.alloc (.cells #[.int .i64 fg, .bool bo, .bool un, .bool iv] 28)) := (Below.refl _ _).alloc (Nat.le_refl _) _
  have HS0 := hide (h.of hb0)
  have HK0 := hide (KeepC.of (p := p) hb0)
  have hpw := h.lt
  clear h
  go_enter Tryd.func34, Tryd.ntmps34
  go_wp2
  obtain ⟨z, hz⟩ : ∃ z, w.heap.size = z := ⟨_, rfl⟩
  obtain ⟨W1, hW1⟩ : ∃ W, w.alloc (.cells #[.int .i64 fg, .bool bo, .bool un, .bool iv] 28) = W := ⟨_, rfl⟩
  have hpz : z ≠ p := by omega
  rw [hz] at HW1
  rw [show w.alloc (.cells [.int .i64 fg, .bool bo, .bool un, .bool iv].toArray 28) = W1 from hW1] at HW1
  rw [hW1] at HS0 HK0
  first | rw [hz, hW1] | rw [hW1]
  clear hb0 hW1 hz hpw
  obtain ⟨A1, m1, cp1, hm1, hc1, -, -, r1, rf1, hbk1, how1⟩ := HS0.out.reads
  have s10 := HW1.out.cell (i := 0) rfl
  have s11 := HW1.out.cell (i := 1) rfl
  have s12 := HW1.out.cell (i := 2) rfl
  have s13 := HW1.out.cell (i := 3) rfl
  have hpl1 := HS0.out.lt
  have hbl1 : Below W1.heap.size W1 (W1.alloc (.cells (clCells (mkC r 2 (fg, bo, un, iv))).toArray 39)).drew := ((Below.refl W1.heap.size W1).alloc (Nat.le_refl _) _).drew
  have HC1 := hide (show Blk (W1.alloc (.cells (clCells (mkC r 2 (fg, bo, un, iv))).toArray 39)).drew W1.heap.size 39 (clCells (mkC r 2 (fg, bo, un, iv))) from Blk.new W1 _ _)
  have HO1 := hide (how1.below hbl1)
  have HB1 := hide (hbk1.below hbl1)
  have HKb1 := hide (KeepC.of (p := p) hbl1)
  have hll1 : (L).length ≤ 100000000 := by first | omega | (rw [List.length_append]; simp only [List.length_cons, List.length_nil]; omega)
  obtain ⟨k1, hk1⟩ : ∃ k, (L ++ [(mkC r 2 (fg, bo, un, iv))]).length = k := ⟨_, rfl⟩
  have HL1 := hide hk1
  clear hbk1 how1 hbl1 hm1 hk1
  go_region_law (refine step_appY (by rfl) (.tmp 12) (.tmp 17) (by rfl) (p + 1) (by simp; omega) (.slice A1 m1 cp1) _ (mkC r 2 (fg, bo, un, iv)) W1.heap.size 1 (by simp [Act.eval, Act.put]) (by simp [Act.eval, Act.put]) HO1.out HC1.out hll1 ?_; intro v1 w1 ho1 hg1; obtain ⟨B1, c1, rfl, -, -⟩ := ho1.formL HL1.out; have HA1 := hide (Sh.app HB1.out HO1.out ho1 hg1); have HM1 := hide (Sh.mid HB1.out HO1.out hg1); have q1 := HM1.out.cell (i := 1) rfl; have ff1 := fun i => HM1.out.frozen i; clear ho1 hg1)
  all_goals (
    go_wp2
    have HKc := hide ((HK0.out.trans HKb1.out).trans HA1.out.2)
    have HS1 := hide HA1.out.1
    have HW2 := hide ((HKb1.out.trans HA1.out.2).blk HW1.out hpz (by decide))
    obtain ⟨W2, hW2⟩ : ∃ W, w1.setCell ⟨p, 1, none⟩ (.slice B1 k1 c1) = W := ⟨_, rfl⟩
    rw [hW2] at HKc HS1 HW2
    first | rw [hW2] | skip
    clear hW2 HA1 HM1 q1 ff1 HC1 HO1 HB1 HKb1 HK0 HW1 HS0 r1 rf1 s10 s11 s12 s13 hll1 HL1 hpl1
    obtain ⟨A2, m2, cp2, hm2, hc2, -, -, r2, rf2, hbk2, how2⟩ := HS1.out.reads
    have s20 := HW2.out.cell (i := 0) rfl
    have s21 := HW2.out.cell (i := 1) rfl
    have s22 := HW2.out.cell (i := 2) rfl
    have s23 := HW2.out.cell (i := 3) rfl
    have hpl2 := HS1.out.lt
    have hbl2 : Below W2.heap.size W2 (W2.alloc (.cells (clCells (mkC 0 0 (fg, bo, un, iv))).toArray 39)).drew := ((Below.refl W2.heap.size W2).alloc (Nat.le_refl _) _).drew
    have HC2 := hide (show Blk (W2.alloc (.cells (clCells (mkC 0 0 (fg, bo, un, iv))).toArray 39)).drew W2.heap.size 39 (clCells (mkC 0 0 (fg, bo, un, iv))) from Blk.new W2 _ _)
    have HO2 := hide (how2.below hbl2)
    have HB2 := hide (hbk2.below hbl2)
    have HKb2 := hide (KeepC.of (p := p) hbl2)
    have hll2 : (L ++ [mkC r 2 (fg, bo, un, iv)]).length ≤ 100000000 := by first | omega | (rw [List.length_append]; simp only [List.length_cons, List.length_nil]; omega)
    obtain ⟨k2, hk2⟩ : ∃ k, (L ++ [mkC r 2 (fg, bo, un, iv)] ++ [(mkC 0 0 (fg, bo, un, iv))]).length = k := ⟨_, rfl⟩
    have HL2 := hide hk2
    clear hbk2 how2 hbl2 hm2 hk2
    go_region_law (refine step_appY (by rfl) (.tmp 27) (.tmp 30) (by rfl) (p + 1) (by simp; omega) (.slice A2 m2 cp2) _ (mkC 0 0 (fg, bo, un, iv)) W2.heap.size 1 (by simp [Act.eval, Act.put]) (by simp [Act.eval, Act.put]) HO2.out HC2.out hll2 ?_; intro v2 w2 ho2 hg2; obtain ⟨B2, c2, rfl, -, -⟩ := ho2.formL HL2.out; have HA2 := hide (Sh.app HB2.out HO2.out ho2 hg2); have HM2 := hide (Sh.mid HB2.out HO2.out hg2); have q2 := HM2.out.cell (i := 1) rfl; have ff2 := fun i => HM2.out.frozen i; clear ho2 hg2)
    all_goals go_wp2
    all_goals go_end0
    all_goals exact ⟨rfl, by unfold putY; rw [if_pos rfl]; exact HA2.out.1, (HKc.out.trans HKb2.out).trans HA2.out.2⟩)
theorem sput_any (p C : Nat) (L : List Cl) (r n fg : Int) (bo un iv : Bool) (w : World) (h : Sh w p C L) (hL : L.length ≤ 10000000) :
    Calls Tryd.prog 34 #[.pointer (some ⟨p, 0, none⟩), .int .i32 r, .int .i64 n, .agg #[.int .i64 fg, .bool bo, .bool un, .bool iv]] w fun e w' => e = .returned (.tuple #[]) ∧ Sh w' p C (putY L r n (fg, bo, un, iv)) ∧ KeepC p w w' := by
  by_cases hn : n = 2
  · subst hn; exact sput_two p C L r fg bo un iv w h hL
  · exact sput_one p C L r n fg bo un iv w h hL hn
end Go.Proofs.YtmpajkfbiocmiaaDoor
namespace Go.Proofs.YtmpajkfbiocmiaaDoor
open Go.RowKit

/-- An operation that may be taken first, its slot named. -/
theorem wpAnyH_at {P : Program} {md : Region.Mode} {ops : Array Oper} {Q : Exit → Act → World → Prop} {S : World → Prop} {i : Nat} {oi : Oper} {v : Value} {d : Tmp} {fuel : Nat} {listed : Array Bool} {a : Act} {w : World} (hi : ops[i]? = some oi) (hd : oi.dst = some d)
    (hs : Region.noSelect ops = true) (hf : Region.free md ops listed i = true) (hr : (Region.ready md ops listed).contains i = true)
    (hQ : ∀ c a w, Q (.panic c) (a.put (some d) v) w → Q (.panic c) a w) (hy : YieldsIf P ops S oi v a) (hS : S w)
    (h : wpAnyH P md ops Q S fuel (listed.setIfInBounds i true) (a.put (some d) v) w) : wpAnyH P md ops Q S (fuel + 1) listed a w :=
  wpAnyH_take hi hs hf hr (by rw [hd]; exact hQ) hy hS (by rw [hd]; exact h)
/-- A rune that finds no room begins a new row. -/
def fitsY (C : Nat) (L : List Cl) (r : Int) : List Cl := if r ≠ 9 ∧ r ≠ 10 ∧ cells r = 2 ∧ L.length % C = C - 1 then L ++ [blankC] else L
/-- What the sheet's walks read. -/
def ShK (w : World) (p C : Nat) (L : List Cl) (A : Option Addr) (m c : Nat) (W : World) : Prop := W.cell? ⟨p, 0, none⟩ = some (.int .i64 C) ∧ W.cell? ⟨p, 1, none⟩ = some (.slice A m c) ∧ Hid (Sh W p C L ∧ WTabs W ∧ LBT W ∧ Below w.heap.size w W)
theorem ShK.keep {w : World} {p C : Nat} {L : List Cl} {A : Option Addr} {m c : Nat} {W V : World} (h : W.cell? ⟨p, 0, none⟩ = some (.int .i64 C) ∧ W.cell? ⟨p, 1, none⟩ = some (.slice A m c) ∧ Hid (Sh W p C L ∧ WTabs W ∧ LBT W ∧ Below w.heap.size w W)) (hb : Below W.heap.size W V) : V.cell? ⟨p, 0, none⟩ = some (.int .i64 C) ∧ V.cell? ⟨p, 1, none⟩ = some (.slice A m c) ∧ Hid (Sh V p C L ∧ WTabs V ∧ LBT V ∧ Below w.heap.size w V) := by
  obtain ⟨h0, h1, h2⟩ := h
  obtain ⟨h3, h4, h5, h6⟩ := h2.out
  exact ⟨kcG hb h0, kcG hb h1, hide ⟨h3.of hb, h4.below hb, h5.below hb, h6.trans (hb.mono h6.size)⟩⟩
theorem ShK.new {w : World} {p C : Nat} {L : List Cl} (h : Sh w p C L) (hT : WTabs w) (hL : LBT w) : ∃ A m c, m = L.length ∧ m ≤ maxLen ∧ ShK w p C L A m c w := by
  obtain ⟨A, n, c, hn, h1, h2, r0, r1, -⟩ := h.reads
  exact ⟨A, n, c, hn, by omega, r0, r1, hide ⟨h, hT, hL, Below.refl _ _⟩⟩
theorem drew_b (W : World) : Below W.heap.size W W.drew := (Below.refl _ _).drew

set_option maxHeartbeats 2000000 in
set_option maxRecDepth 100000 in
theorem fits_9 (p C : Nat) (L : List Cl) (w : World) (h : Sh w p C L) (hT : WTabs w) (hB : LBT w) :
    Calls Tryd.prog 21 #[.pointer (some ⟨p, 0, none⟩), .int .i32 9] w fun e w' => e = .returned (.tuple #[]) ∧ Sh w' p C (fitsY C L 9) ∧ KeepC p w w' := by
  obtain ⟨A, m, c, hm, hmm, HK⟩ := ShK.new h hT hB
  have HK := hide HK
  have HX := hide (show fitsY C L 9 = L ∧ True from ⟨by unfold fitsY; rw [if_neg (by simp)], trivial⟩)
  clear h hT hB hm
  go_enter Tryd.func21, Tryd.ntmps21
  go_wp2
  refine wp_region_held_drew (S := (fun W => W.cell? ⟨p, 0, none⟩ = some (.int .i64 C) ∧ W.cell? ⟨p, 1, none⟩ = some (.slice A m c) ∧ Hid (Sh W p C L ∧ WTabs W ∧ LBT W ∧ Below w.heap.size w W))) (by kernel_rfl) ?_ (fun hHeld => ?_)
  · exact ShK.keep HK.out (drew_b _)
  refine wpAnyH_at (i := 0) (v := ?v0) (d := 4) rfl rfl (by kernel_rfl) (by kernel_rfl) (by kernel_rfl) (fun _ _ _ h => h) (Or.inl ⟨by rfl, fun w' hSw => ?hy0⟩) (by assumption) ?rest0
  case hy0 =>
    (try dsimp only at hSw)
    go_simp
    (try with_reducible rfl)
  (try simp only [Act.put, List.setIfInBounds_toArray, List.set_cons_zero, List.set_cons_succ])
  refine wpAnyH_at (i := 1) (v := ?v1) (d := 5) rfl rfl (by kernel_rfl) (by kernel_rfl) (by kernel_rfl) (fun _ _ _ h => h) (Or.inl ⟨by rfl, fun w' hSw => ?hy1⟩) (by assumption) ?rest1
  case hy1 =>
    (try dsimp only at hSw)
    go_simp
    (try with_reducible rfl)
  (try simp only [Act.put, List.setIfInBounds_toArray, List.set_cons_zero, List.set_cons_succ])
  refine wpAnyH_at (i := 2) (v := ?v2) (d := 6) rfl rfl (by kernel_rfl) (by kernel_rfl) (by kernel_rfl) (fun _ _ _ h => h) (Or.inl ⟨by rfl, fun w' hSw => ?hy2⟩) (by assumption) ?rest2
  case hy2 =>
    (try dsimp only at hSw)
    go_simp
    (try with_reducible rfl)
  (try simp only [Act.put, List.setIfInBounds_toArray, List.set_cons_zero, List.set_cons_succ])
  refine wpAnyH_at (i := 3) (v := undef) (d := 7) rfl rfl (by kernel_rfl) (by kernel_rfl) (by kernel_rfl) (fun _ _ _ h => h) (Or.inr ⟨by rfl, rfl⟩) (by assumption) ?_
  (try simp only [Act.put, List.setIfInBounds_toArray, List.set_cons_zero, List.set_cons_succ])
  refine wpAnyH_at (i := 4) (v := undef) (d := 8) rfl rfl (by kernel_rfl) (by kernel_rfl) (by kernel_rfl) (fun _ _ _ h => h) (Or.inr ⟨by rfl, rfl⟩) (by assumption) ?_
  (try simp only [Act.put, List.setIfInBounds_toArray, List.set_cons_zero, List.set_cons_succ])
  refine wpAnyH_at (i := 5) (v := ?v5) (d := 9) rfl rfl (by kernel_rfl) (by kernel_rfl) (by kernel_rfl) (fun _ _ _ h => h) (Or.inl ⟨by rfl, fun w' hSw => ?hy5⟩) (by assumption) ?rest5
  case hy5 =>
    (try dsimp only at hSw)
    go_simp
    (try with_reducible rfl)
  (try simp only [Act.put, List.setIfInBounds_toArray, List.set_cons_zero, List.set_cons_succ])
  refine wpAnyH_at (i := 6) (v := ?v6) (d := 10) rfl rfl (by kernel_rfl) (by kernel_rfl) (by kernel_rfl) (fun _ _ _ h => h) (Or.inl ⟨by rfl, fun w' hSw => ?hy6⟩) (by assumption) ?rest6
  case hy6 =>
    (try dsimp only at hSw)
    go_simp
    (try with_reducible rfl)
  (try simp only [Act.put, List.setIfInBounds_toArray, List.set_cons_zero, List.set_cons_succ])
  refine wpAnyH_at (i := 7) (v := undef) (d := 11) rfl rfl (by kernel_rfl) (by kernel_rfl) (by kernel_rfl) (fun _ _ _ h => h) (Or.inr ⟨by rfl, rfl⟩) (by assumption) ?_
  (try simp only [Act.put, List.setIfInBounds_toArray, List.set_cons_zero, List.set_cons_succ])
  refine wpAnyH_at (i := 8) (v := undef) (d := 12) rfl rfl (by kernel_rfl) (by kernel_rfl) (by kernel_rfl) (fun _ _ _ h => h) (Or.inr ⟨by rfl, rfl⟩) (by assumption) ?_
  (try simp only [Act.put, List.setIfInBounds_toArray, List.set_cons_zero, List.set_cons_succ])
  refine wpAnyH_at (i := 9) (v := undef) (d := 13) rfl rfl (by kernel_rfl) (by kernel_rfl) (by kernel_rfl) (fun _ _ _ h => h) (Or.inr ⟨by rfl, rfl⟩) (by assumption) ?_
  (try simp only [Act.put, List.setIfInBounds_toArray, List.set_cons_zero, List.set_cons_succ])
  refine wpAnyH_at (i := 10) (v := ?v10) (d := 14) rfl rfl (by kernel_rfl) (by kernel_rfl) (by kernel_rfl) (fun _ _ _ h => h) (Or.inl ⟨by rfl, fun w' hSw => ?hy10⟩) (by assumption) ?rest10
  case hy10 =>
    (try dsimp only at hSw)
    go_simp
    (try with_reducible rfl)
  (try simp only [Act.put, List.setIfInBounds_toArray, List.set_cons_zero, List.set_cons_succ])
  refine wpAnyH_at (i := 11) (v := ?v11) (d := 15) rfl rfl (by kernel_rfl) (by kernel_rfl) (by kernel_rfl) (fun _ _ _ h => h) (Or.inl ⟨by rfl, fun w' hSw => ?hy11⟩) (by assumption) ?rest11
  case hy11 =>
    (try dsimp only at hSw)
    go_simp
    (try with_reducible rfl)
  (try simp only [Act.put, List.setIfInBounds_toArray, List.set_cons_zero, List.set_cons_succ])
  refine wpAnyH_at (i := 12) (v := undef) (d := 16) rfl rfl (by kernel_rfl) (by kernel_rfl) (by kernel_rfl) (fun _ _ _ h => h) (Or.inr ⟨by rfl, rfl⟩) (by assumption) ?_
  (try simp only [Act.put, List.setIfInBounds_toArray, List.set_cons_zero, List.set_cons_succ])
  refine wpAnyH_at (i := 13) (v := undef) (d := 17) rfl rfl (by kernel_rfl) (by kernel_rfl) (by kernel_rfl) (fun _ _ _ h => h) (Or.inr ⟨by rfl, rfl⟩) (by assumption) ?_
  (try simp only [Act.put, List.setIfInBounds_toArray, List.set_cons_zero, List.set_cons_succ])
  refine wpAnyH_at (i := 14) (v := undef) (d := 18) rfl rfl (by kernel_rfl) (by kernel_rfl) (by kernel_rfl) (fun _ _ _ h => h) (Or.inr ⟨by rfl, rfl⟩) (by assumption) ?_
  (try simp only [Act.put, List.setIfInBounds_toArray, List.set_cons_zero, List.set_cons_succ])
  refine wpAnyH_at (i := 15) (v := undef) (d := 19) rfl rfl (by kernel_rfl) (by kernel_rfl) (by kernel_rfl) (fun _ _ _ h => h) (Or.inr ⟨by rfl, rfl⟩) (by assumption) ?_
  (try simp only [Act.put, List.setIfInBounds_toArray, List.set_cons_zero, List.set_cons_succ])
  refine wpAnyH_at (i := 16) (v := undef) (d := 20) rfl rfl (by kernel_rfl) (by kernel_rfl) (by kernel_rfl) (fun _ _ _ h => h) (Or.inr ⟨by rfl, rfl⟩) (by assumption) ?_
  (try simp only [Act.put, List.setIfInBounds_toArray, List.set_cons_zero, List.set_cons_succ])
  refine wpAnyH_at (i := 17) (v := undef) (d := 21) rfl rfl (by kernel_rfl) (by kernel_rfl) (by kernel_rfl) (fun _ _ _ h => h) (Or.inr ⟨by rfl, rfl⟩) (by assumption) ?_
  (try simp only [Act.put, List.setIfInBounds_toArray, List.set_cons_zero, List.set_cons_succ])
  refine wpAnyH_at (i := 18) (v := undef) (d := 22) rfl rfl (by kernel_rfl) (by kernel_rfl) (by kernel_rfl) (fun _ _ _ h => h) (Or.inr ⟨by rfl, rfl⟩) (by assumption) ?_
  (try simp only [Act.put, List.setIfInBounds_toArray, List.set_cons_zero, List.set_cons_succ])
  refine wpAnyH_at (i := 19) (v := undef) (d := 23) rfl rfl (by kernel_rfl) (by kernel_rfl) (by kernel_rfl) (fun _ _ _ h => h) (Or.inr ⟨by rfl, rfl⟩) (by assumption) ?_
  (try simp only [Act.put, List.setIfInBounds_toArray, List.set_cons_zero, List.set_cons_succ])
  refine wpAnyH_at (i := 20) (v := ?v20) (d := 24) rfl rfl (by kernel_rfl) (by kernel_rfl) (by kernel_rfl) (fun _ _ _ h => h) (Or.inl ⟨by rfl, fun w' hSw => ?hy20⟩) (by assumption) ?rest20
  case hy20 =>
    (try dsimp only at hSw)
    go_simp
    (try with_reducible rfl)
  (try simp only [Act.put, List.setIfInBounds_toArray, List.set_cons_zero, List.set_cons_succ])
  refine wpAnyH_done (by kernel_rfl) ?_ _
  go_wp2
  go_end0
  rw [HX.out.1]
  exact ⟨rfl, hHeld.2.2.out.1, KeepC.of hHeld.2.2.out.2.2.2⟩
set_option maxHeartbeats 2000000 in
set_option maxRecDepth 100000 in
theorem fits_10 (p C : Nat) (L : List Cl) (w : World) (h : Sh w p C L) (hT : WTabs w) (hB : LBT w) :
    Calls Tryd.prog 21 #[.pointer (some ⟨p, 0, none⟩), .int .i32 10] w fun e w' => e = .returned (.tuple #[]) ∧ Sh w' p C (fitsY C L 10) ∧ KeepC p w w' := by
  obtain ⟨A, m, c, hm, hmm, HK⟩ := ShK.new h hT hB
  have HK := hide HK
  have HX := hide (show fitsY C L 10 = L ∧ True from ⟨by unfold fitsY; rw [if_neg (by simp)], trivial⟩)
  clear h hT hB hm
  go_enter Tryd.func21, Tryd.ntmps21
  go_wp2
  refine wp_region_held_drew (S := (fun W => W.cell? ⟨p, 0, none⟩ = some (.int .i64 C) ∧ W.cell? ⟨p, 1, none⟩ = some (.slice A m c) ∧ Hid (Sh W p C L ∧ WTabs W ∧ LBT W ∧ Below w.heap.size w W))) (by kernel_rfl) ?_ (fun hHeld => ?_)
  · exact ShK.keep HK.out (drew_b _)
  refine wpAnyH_at (i := 0) (v := ?v0) (d := 4) rfl rfl (by kernel_rfl) (by kernel_rfl) (by kernel_rfl) (fun _ _ _ h => h) (Or.inl ⟨by rfl, fun w' hSw => ?hy0⟩) (by assumption) ?rest0
  case hy0 =>
    (try dsimp only at hSw)
    go_simp
    (try with_reducible rfl)
  (try simp only [Act.put, List.setIfInBounds_toArray, List.set_cons_zero, List.set_cons_succ])
  refine wpAnyH_at (i := 1) (v := ?v1) (d := 5) rfl rfl (by kernel_rfl) (by kernel_rfl) (by kernel_rfl) (fun _ _ _ h => h) (Or.inl ⟨by rfl, fun w' hSw => ?hy1⟩) (by assumption) ?rest1
  case hy1 =>
    (try dsimp only at hSw)
    go_simp
    (try with_reducible rfl)
  (try simp only [Act.put, List.setIfInBounds_toArray, List.set_cons_zero, List.set_cons_succ])
  refine wpAnyH_at (i := 2) (v := ?v2) (d := 6) rfl rfl (by kernel_rfl) (by kernel_rfl) (by kernel_rfl) (fun _ _ _ h => h) (Or.inl ⟨by rfl, fun w' hSw => ?hy2⟩) (by assumption) ?rest2
  case hy2 =>
    (try dsimp only at hSw)
    go_simp
    (try with_reducible rfl)
  (try simp only [Act.put, List.setIfInBounds_toArray, List.set_cons_zero, List.set_cons_succ])
  refine wpAnyH_at (i := 3) (v := ?v3) (d := 7) rfl rfl (by kernel_rfl) (by kernel_rfl) (by kernel_rfl) (fun _ _ _ h => h) (Or.inl ⟨by rfl, fun w' hSw => ?hy3⟩) (by assumption) ?rest3
  case hy3 =>
    (try dsimp only at hSw)
    go_simp
    (try with_reducible rfl)
  (try simp only [Act.put, List.setIfInBounds_toArray, List.set_cons_zero, List.set_cons_succ])
  refine wpAnyH_at (i := 4) (v := ?v4) (d := 8) rfl rfl (by kernel_rfl) (by kernel_rfl) (by kernel_rfl) (fun _ _ _ h => h) (Or.inl ⟨by rfl, fun w' hSw => ?hy4⟩) (by assumption) ?rest4
  case hy4 =>
    (try dsimp only at hSw)
    go_simp
    (try with_reducible rfl)
  (try simp only [Act.put, List.setIfInBounds_toArray, List.set_cons_zero, List.set_cons_succ])
  refine wpAnyH_at (i := 5) (v := ?v5) (d := 9) rfl rfl (by kernel_rfl) (by kernel_rfl) (by kernel_rfl) (fun _ _ _ h => h) (Or.inl ⟨by rfl, fun w' hSw => ?hy5⟩) (by assumption) ?rest5
  case hy5 =>
    (try dsimp only at hSw)
    go_simp
    (try with_reducible rfl)
  (try simp only [Act.put, List.setIfInBounds_toArray, List.set_cons_zero, List.set_cons_succ])
  refine wpAnyH_at (i := 6) (v := ?v6) (d := 10) rfl rfl (by kernel_rfl) (by kernel_rfl) (by kernel_rfl) (fun _ _ _ h => h) (Or.inl ⟨by rfl, fun w' hSw => ?hy6⟩) (by assumption) ?rest6
  case hy6 =>
    (try dsimp only at hSw)
    go_simp
    (try with_reducible rfl)
  (try simp only [Act.put, List.setIfInBounds_toArray, List.set_cons_zero, List.set_cons_succ])
  refine wpAnyH_at (i := 7) (v := undef) (d := 11) rfl rfl (by kernel_rfl) (by kernel_rfl) (by kernel_rfl) (fun _ _ _ h => h) (Or.inr ⟨by rfl, rfl⟩) (by assumption) ?_
  (try simp only [Act.put, List.setIfInBounds_toArray, List.set_cons_zero, List.set_cons_succ])
  refine wpAnyH_at (i := 8) (v := undef) (d := 12) rfl rfl (by kernel_rfl) (by kernel_rfl) (by kernel_rfl) (fun _ _ _ h => h) (Or.inr ⟨by rfl, rfl⟩) (by assumption) ?_
  (try simp only [Act.put, List.setIfInBounds_toArray, List.set_cons_zero, List.set_cons_succ])
  refine wpAnyH_at (i := 9) (v := undef) (d := 13) rfl rfl (by kernel_rfl) (by kernel_rfl) (by kernel_rfl) (fun _ _ _ h => h) (Or.inr ⟨by rfl, rfl⟩) (by assumption) ?_
  (try simp only [Act.put, List.setIfInBounds_toArray, List.set_cons_zero, List.set_cons_succ])
  refine wpAnyH_at (i := 10) (v := ?v10) (d := 14) rfl rfl (by kernel_rfl) (by kernel_rfl) (by kernel_rfl) (fun _ _ _ h => h) (Or.inl ⟨by rfl, fun w' hSw => ?hy10⟩) (by assumption) ?rest10
  case hy10 =>
    (try dsimp only at hSw)
    go_simp
    (try with_reducible rfl)
  (try simp only [Act.put, List.setIfInBounds_toArray, List.set_cons_zero, List.set_cons_succ])
  refine wpAnyH_at (i := 11) (v := ?v11) (d := 15) rfl rfl (by kernel_rfl) (by kernel_rfl) (by kernel_rfl) (fun _ _ _ h => h) (Or.inl ⟨by rfl, fun w' hSw => ?hy11⟩) (by assumption) ?rest11
  case hy11 =>
    (try dsimp only at hSw)
    go_simp
    (try with_reducible rfl)
  (try simp only [Act.put, List.setIfInBounds_toArray, List.set_cons_zero, List.set_cons_succ])
  refine wpAnyH_at (i := 12) (v := undef) (d := 16) rfl rfl (by kernel_rfl) (by kernel_rfl) (by kernel_rfl) (fun _ _ _ h => h) (Or.inr ⟨by rfl, rfl⟩) (by assumption) ?_
  (try simp only [Act.put, List.setIfInBounds_toArray, List.set_cons_zero, List.set_cons_succ])
  refine wpAnyH_at (i := 13) (v := undef) (d := 17) rfl rfl (by kernel_rfl) (by kernel_rfl) (by kernel_rfl) (fun _ _ _ h => h) (Or.inr ⟨by rfl, rfl⟩) (by assumption) ?_
  (try simp only [Act.put, List.setIfInBounds_toArray, List.set_cons_zero, List.set_cons_succ])
  refine wpAnyH_at (i := 14) (v := undef) (d := 18) rfl rfl (by kernel_rfl) (by kernel_rfl) (by kernel_rfl) (fun _ _ _ h => h) (Or.inr ⟨by rfl, rfl⟩) (by assumption) ?_
  (try simp only [Act.put, List.setIfInBounds_toArray, List.set_cons_zero, List.set_cons_succ])
  refine wpAnyH_at (i := 15) (v := undef) (d := 19) rfl rfl (by kernel_rfl) (by kernel_rfl) (by kernel_rfl) (fun _ _ _ h => h) (Or.inr ⟨by rfl, rfl⟩) (by assumption) ?_
  (try simp only [Act.put, List.setIfInBounds_toArray, List.set_cons_zero, List.set_cons_succ])
  refine wpAnyH_at (i := 16) (v := undef) (d := 20) rfl rfl (by kernel_rfl) (by kernel_rfl) (by kernel_rfl) (fun _ _ _ h => h) (Or.inr ⟨by rfl, rfl⟩) (by assumption) ?_
  (try simp only [Act.put, List.setIfInBounds_toArray, List.set_cons_zero, List.set_cons_succ])
  refine wpAnyH_at (i := 17) (v := undef) (d := 21) rfl rfl (by kernel_rfl) (by kernel_rfl) (by kernel_rfl) (fun _ _ _ h => h) (Or.inr ⟨by rfl, rfl⟩) (by assumption) ?_
  (try simp only [Act.put, List.setIfInBounds_toArray, List.set_cons_zero, List.set_cons_succ])
  refine wpAnyH_at (i := 18) (v := undef) (d := 22) rfl rfl (by kernel_rfl) (by kernel_rfl) (by kernel_rfl) (fun _ _ _ h => h) (Or.inr ⟨by rfl, rfl⟩) (by assumption) ?_
  (try simp only [Act.put, List.setIfInBounds_toArray, List.set_cons_zero, List.set_cons_succ])
  refine wpAnyH_at (i := 19) (v := undef) (d := 23) rfl rfl (by kernel_rfl) (by kernel_rfl) (by kernel_rfl) (fun _ _ _ h => h) (Or.inr ⟨by rfl, rfl⟩) (by assumption) ?_
  (try simp only [Act.put, List.setIfInBounds_toArray, List.set_cons_zero, List.set_cons_succ])
  refine wpAnyH_at (i := 20) (v := ?v20) (d := 24) rfl rfl (by kernel_rfl) (by kernel_rfl) (by kernel_rfl) (fun _ _ _ h => h) (Or.inl ⟨by rfl, fun w' hSw => ?hy20⟩) (by assumption) ?rest20
  case hy20 =>
    (try dsimp only at hSw)
    go_simp
    (try with_reducible rfl)
  (try simp only [Act.put, List.setIfInBounds_toArray, List.set_cons_zero, List.set_cons_succ])
  refine wpAnyH_done (by kernel_rfl) ?_ _
  go_wp2
  go_end0
  rw [HX.out.1]
  exact ⟨rfl, hHeld.2.2.out.1, KeepC.of hHeld.2.2.out.2.2.2⟩
set_option maxHeartbeats 2000000 in
set_option maxRecDepth 100000 in
theorem fits_n2 (p C : Nat) (L : List Cl) (r x : Int) (w : World) (h : Sh w p C L) (hT : WTabs w) (hB : LBT w) (h9 : r ≠ 9) (h10 : r ≠ 10) (hx : cells r = x) (h2 : x ≠ 2) :
    Calls Tryd.prog 21 #[.pointer (some ⟨p, 0, none⟩), .int .i32 r] w fun e w' => e = .returned (.tuple #[]) ∧ Sh w' p C (fitsY C L r) ∧ KeepC p w w' := by
  obtain ⟨A, m, c, hm, hmm, HK⟩ := ShK.new h hT hB
  have HK := hide HK
  have hn : fitsY C L r = L := by unfold fitsY; rw [if_neg (by rw [hx]; rintro ⟨-, -, e, -⟩; exact h2 e)]
  have HX := hide (show _ ∧ _ from ⟨hn, hx⟩)
  have q9 : (r != 9) = true := by simpa using h9
  have q10 : (r != 10) = true := by simpa using h10
  have q2 : (x == 2) = false := by simpa using h2
  clear h hT hB hm hn hx h9 h10 h2
  go_enter Tryd.func21, Tryd.ntmps21
  go_wp2
  refine wp_region_held_drew (S := (fun W => W.cell? ⟨p, 0, none⟩ = some (.int .i64 C) ∧ W.cell? ⟨p, 1, none⟩ = some (.slice A m c) ∧ Hid (Sh W p C L ∧ WTabs W ∧ LBT W ∧ Below w.heap.size w W))) (by kernel_rfl) ?_ (fun hHeld => ?_)
  · exact ShK.keep HK.out (drew_b _)
  refine wpAnyH_at (i := 0) (v := ?v0) (d := 4) rfl rfl (by kernel_rfl) (by kernel_rfl) (by kernel_rfl) (fun _ _ _ h => h) (Or.inl ⟨by rfl, fun w' hSw => ?hy0⟩) (by assumption) ?rest0
  case hy0 =>
    (try dsimp only at hSw)
    go_simp
    (try with_reducible rfl)
  (try simp only [Act.put, List.setIfInBounds_toArray, List.set_cons_zero, List.set_cons_succ])
  refine wpAnyH_at (i := 1) (v := ?v1) (d := 5) rfl rfl (by kernel_rfl) (by kernel_rfl) (by kernel_rfl) (fun _ _ _ h => h) (Or.inl ⟨by rfl, fun w' hSw => ?hy1⟩) (by assumption) ?rest1
  case hy1 =>
    (try dsimp only at hSw)
    go_simp
    (try with_reducible rfl)
  (try simp only [Act.put, List.setIfInBounds_toArray, List.set_cons_zero, List.set_cons_succ])
  refine wpAnyH_at (i := 2) (v := ?v2) (d := 6) rfl rfl (by kernel_rfl) (by kernel_rfl) (by kernel_rfl) (fun _ _ _ h => h) (Or.inl ⟨by rfl, fun w' hSw => ?hy2⟩) (by assumption) ?rest2
  case hy2 =>
    (try dsimp only at hSw)
    go_simp
    (try with_reducible rfl)
  (try simp only [Act.put, List.setIfInBounds_toArray, List.set_cons_zero, List.set_cons_succ])
  refine wpAnyH_at (i := 3) (v := ?v3) (d := 7) rfl rfl (by kernel_rfl) (by kernel_rfl) (by kernel_rfl) (fun _ _ _ h => h) (Or.inl ⟨by rfl, fun w' hSw => ?hy3⟩) (by assumption) ?rest3
  case hy3 =>
    (try dsimp only at hSw)
    go_simp
    (try with_reducible rfl)
  (try simp only [Act.put, List.setIfInBounds_toArray, List.set_cons_zero, List.set_cons_succ])
  refine wpAnyH_at (i := 4) (v := ?v4) (d := 8) rfl rfl (by kernel_rfl) (by kernel_rfl) (by kernel_rfl) (fun _ _ _ h => h) (Or.inl ⟨by rfl, fun w' hSw => ?hy4⟩) (by assumption) ?rest4
  case hy4 =>
    (try dsimp only at hSw)
    go_simp
    (try with_reducible rfl)
  (try simp only [Act.put, List.setIfInBounds_toArray, List.set_cons_zero, List.set_cons_succ])
  refine wpAnyH_at (i := 5) (v := ?v5) (d := 9) rfl rfl (by kernel_rfl) (by kernel_rfl) (by kernel_rfl) (fun _ _ _ h => h) (Or.inl ⟨by rfl, fun w' hSw => ?hy5⟩) (by assumption) ?rest5
  case hy5 =>
    (try dsimp only at hSw)
    go_simp
    (try with_reducible rfl)
  (try simp only [Act.put, List.setIfInBounds_toArray, List.set_cons_zero, List.set_cons_succ])
  refine wpAnyH_at (i := 6) (v := ?v6) (d := 10) rfl rfl (by kernel_rfl) (by kernel_rfl) (by kernel_rfl) (fun _ _ _ h => h) (Or.inl ⟨by rfl, fun w' hSw => ?hy6⟩) (by assumption) ?rest6
  case hy6 =>
    (try dsimp only at hSw)
    go_simp
    (try with_reducible rfl)
  (try simp only [Act.put, List.setIfInBounds_toArray, List.set_cons_zero, List.set_cons_succ])
  refine wpAnyH_at (i := 7) (v := ?v7) (d := 11) rfl rfl (by kernel_rfl) (by kernel_rfl) (by kernel_rfl) (fun _ _ _ h => h) (Or.inl ⟨by rfl, fun w' hSw => ?hy7⟩) (by assumption) ?rest7
  case hy7 =>
    (try dsimp only at hSw)
    go_simp
    (try with_reducible rfl)
  (try simp only [Act.put, List.setIfInBounds_toArray, List.set_cons_zero, List.set_cons_succ])
  refine wpAnyH_ready (rs := [8]) (by kernel_rfl) (by simp) ?_
  refine AllReadyH.cons rfl (fun K' hK' => ?_) AllReadyH.nil
  go_simp
  refine (wof_is r x HX.out.2 _ hHeld.2.2.out.2.1).mono ?_
  rintro e w2 ⟨rfl, hb2⟩
  go_wp2_with fail
  refine hK'.out _ _ ?_ (fun hHeld => ?_)
  · exact ShK.keep (by assumption) hb2
  clear hK' K'
  (try simp only [Act.put, List.getElem_toArray, List.getElem_cons_succ, List.getElem_cons_zero, List.setIfInBounds_toArray, List.set_cons_zero, List.set_cons_succ])
  refine wpAnyH_at (i := 9) (v := ?v9) (d := 13) rfl rfl (by kernel_rfl) (by kernel_rfl) (by kernel_rfl) (fun _ _ _ h => h) (Or.inl ⟨by rfl, fun w' hSw => ?hy9⟩) (by assumption) ?rest9
  case hy9 =>
    (try dsimp only at hSw)
    go_simp
    (try with_reducible rfl)
  (try simp only [Act.put, List.setIfInBounds_toArray, List.set_cons_zero, List.set_cons_succ])
  refine wpAnyH_at (i := 10) (v := ?v10) (d := 14) rfl rfl (by kernel_rfl) (by kernel_rfl) (by kernel_rfl) (fun _ _ _ h => h) (Or.inl ⟨by rfl, fun w' hSw => ?hy10⟩) (by assumption) ?rest10
  case hy10 =>
    (try dsimp only at hSw)
    go_simp
    (try with_reducible rfl)
  (try simp only [Act.put, List.setIfInBounds_toArray, List.set_cons_zero, List.set_cons_succ])
  refine wpAnyH_at (i := 11) (v := ?v11) (d := 15) rfl rfl (by kernel_rfl) (by kernel_rfl) (by kernel_rfl) (fun _ _ _ h => h) (Or.inl ⟨by rfl, fun w' hSw => ?hy11⟩) (by assumption) ?rest11
  case hy11 =>
    (try dsimp only at hSw)
    go_simp
    (try with_reducible rfl)
  (try simp only [Act.put, List.setIfInBounds_toArray, List.set_cons_zero, List.set_cons_succ])
  refine wpAnyH_at (i := 12) (v := undef) (d := 16) rfl rfl (by kernel_rfl) (by kernel_rfl) (by kernel_rfl) (fun _ _ _ h => h) (Or.inr ⟨by rfl, rfl⟩) (by assumption) ?_
  (try simp only [Act.put, List.setIfInBounds_toArray, List.set_cons_zero, List.set_cons_succ])
  refine wpAnyH_at (i := 13) (v := undef) (d := 17) rfl rfl (by kernel_rfl) (by kernel_rfl) (by kernel_rfl) (fun _ _ _ h => h) (Or.inr ⟨by rfl, rfl⟩) (by assumption) ?_
  (try simp only [Act.put, List.setIfInBounds_toArray, List.set_cons_zero, List.set_cons_succ])
  refine wpAnyH_at (i := 14) (v := undef) (d := 18) rfl rfl (by kernel_rfl) (by kernel_rfl) (by kernel_rfl) (fun _ _ _ h => h) (Or.inr ⟨by rfl, rfl⟩) (by assumption) ?_
  (try simp only [Act.put, List.setIfInBounds_toArray, List.set_cons_zero, List.set_cons_succ])
  refine wpAnyH_at (i := 15) (v := undef) (d := 19) rfl rfl (by kernel_rfl) (by kernel_rfl) (by kernel_rfl) (fun _ _ _ h => h) (Or.inr ⟨by rfl, rfl⟩) (by assumption) ?_
  (try simp only [Act.put, List.setIfInBounds_toArray, List.set_cons_zero, List.set_cons_succ])
  refine wpAnyH_at (i := 16) (v := undef) (d := 20) rfl rfl (by kernel_rfl) (by kernel_rfl) (by kernel_rfl) (fun _ _ _ h => h) (Or.inr ⟨by rfl, rfl⟩) (by assumption) ?_
  (try simp only [Act.put, List.setIfInBounds_toArray, List.set_cons_zero, List.set_cons_succ])
  refine wpAnyH_at (i := 17) (v := undef) (d := 21) rfl rfl (by kernel_rfl) (by kernel_rfl) (by kernel_rfl) (fun _ _ _ h => h) (Or.inr ⟨by rfl, rfl⟩) (by assumption) ?_
  (try simp only [Act.put, List.setIfInBounds_toArray, List.set_cons_zero, List.set_cons_succ])
  refine wpAnyH_at (i := 18) (v := undef) (d := 22) rfl rfl (by kernel_rfl) (by kernel_rfl) (by kernel_rfl) (fun _ _ _ h => h) (Or.inr ⟨by rfl, rfl⟩) (by assumption) ?_
  (try simp only [Act.put, List.setIfInBounds_toArray, List.set_cons_zero, List.set_cons_succ])
  refine wpAnyH_at (i := 19) (v := undef) (d := 23) rfl rfl (by kernel_rfl) (by kernel_rfl) (by kernel_rfl) (fun _ _ _ h => h) (Or.inr ⟨by rfl, rfl⟩) (by assumption) ?_
  (try simp only [Act.put, List.setIfInBounds_toArray, List.set_cons_zero, List.set_cons_succ])
  refine wpAnyH_at (i := 20) (v := ?v20) (d := 24) rfl rfl (by kernel_rfl) (by kernel_rfl) (by kernel_rfl) (fun _ _ _ h => h) (Or.inl ⟨by rfl, fun w' hSw => ?hy20⟩) (by assumption) ?rest20
  case hy20 =>
    (try dsimp only at hSw)
    go_simp
    (try with_reducible rfl)
  (try simp only [Act.put, List.setIfInBounds_toArray, List.set_cons_zero, List.set_cons_succ])
  refine wpAnyH_done (by kernel_rfl) ?_ _
  go_wp2
  go_end0
  rw [HX.out.1]
  exact ⟨rfl, hHeld.2.2.out.1, KeepC.of hHeld.2.2.out.2.2.2⟩
set_option maxHeartbeats 2000000 in
set_option maxRecDepth 100000 in
theorem fits_room (p C : Nat) (L : List Cl) (r : Int) (w : World) (h : Sh w p C L) (hT : WTabs w) (hB : LBT w) (hC : 2 ≤ C) (hC2 : C ≤ 1000) (hL : L.length ≤ 10000000) (h9 : r ≠ 9) (h10 : r ≠ 10) (h2 : cells r = 2) (hr : L.length % C ≠ C - 1) :
    Calls Tryd.prog 21 #[.pointer (some ⟨p, 0, none⟩), .int .i32 r] w fun e w' => e = .returned (.tuple #[]) ∧ Sh w' p C (fitsY C L r) ∧ KeepC p w w' := by
  obtain ⟨A, m, c, hm, hmm, HK⟩ := ShK.new h hT hB
  have HK := hide HK
  have hpw := h.lt
  have hn : fitsY C L r = L := by unfold fitsY; rw [if_neg (by rintro ⟨-, -, -, e⟩; exact hr e)]
  have HX := hide (show _ ∧ _ from ⟨hn, h2⟩)
  have HCO := hide (fun W (h : Sh W p C L) => col_any p C L W h hC hC2)
  have q9 : (r != 9) = true := by simpa using h9
  have q10 : (r != 10) = true := by simpa using h10
  obtain ⟨k, hk⟩ : ∃ k, L.length % C = k := ⟨_, rfl⟩
  rw [hk] at HCO hr
  obtain ⟨c1, hc1⟩ : ∃ c1 : Int, (C : Int) - 1 = c1 := ⟨_, rfl⟩
  have hw1 : IntKind.i64.wrap ((C : Int) - 1) = c1 := by rw [Go.wrap_small _ (by omega) (by omega)]; exact hc1
  have q3 : ((k : Int) == c1) = false := by simp; omega
  have HR := hide hr
  clear h hT hB hm hn h2 h9 h10 hk hr hc1
  go_enter Tryd.func21, Tryd.ntmps21
  go_wp2
  refine wp_region_held_drew (S := (fun W => W.cell? ⟨p, 0, none⟩ = some (.int .i64 C) ∧ W.cell? ⟨p, 1, none⟩ = some (.slice A m c) ∧ Hid (Sh W p C L ∧ WTabs W ∧ LBT W ∧ Below w.heap.size w W))) (by kernel_rfl) ?_ (fun hHeld => ?_)
  · exact ShK.keep HK.out (drew_b _)
  refine wpAnyH_at (i := 0) (v := ?v0) (d := 4) rfl rfl (by kernel_rfl) (by kernel_rfl) (by kernel_rfl) (fun _ _ _ h => h) (Or.inl ⟨by rfl, fun w' hSw => ?hy0⟩) (by assumption) ?rest0
  case hy0 =>
    (try dsimp only at hSw)
    go_simp
    (try with_reducible rfl)
  (try simp only [Act.put, List.setIfInBounds_toArray, List.set_cons_zero, List.set_cons_succ])
  refine wpAnyH_at (i := 1) (v := ?v1) (d := 5) rfl rfl (by kernel_rfl) (by kernel_rfl) (by kernel_rfl) (fun _ _ _ h => h) (Or.inl ⟨by rfl, fun w' hSw => ?hy1⟩) (by assumption) ?rest1
  case hy1 =>
    (try dsimp only at hSw)
    go_simp
    (try with_reducible rfl)
  (try simp only [Act.put, List.setIfInBounds_toArray, List.set_cons_zero, List.set_cons_succ])
  refine wpAnyH_at (i := 2) (v := ?v2) (d := 6) rfl rfl (by kernel_rfl) (by kernel_rfl) (by kernel_rfl) (fun _ _ _ h => h) (Or.inl ⟨by rfl, fun w' hSw => ?hy2⟩) (by assumption) ?rest2
  case hy2 =>
    (try dsimp only at hSw)
    go_simp
    (try with_reducible rfl)
  (try simp only [Act.put, List.setIfInBounds_toArray, List.set_cons_zero, List.set_cons_succ])
  refine wpAnyH_at (i := 3) (v := ?v3) (d := 7) rfl rfl (by kernel_rfl) (by kernel_rfl) (by kernel_rfl) (fun _ _ _ h => h) (Or.inl ⟨by rfl, fun w' hSw => ?hy3⟩) (by assumption) ?rest3
  case hy3 =>
    (try dsimp only at hSw)
    go_simp
    (try with_reducible rfl)
  (try simp only [Act.put, List.setIfInBounds_toArray, List.set_cons_zero, List.set_cons_succ])
  refine wpAnyH_at (i := 4) (v := ?v4) (d := 8) rfl rfl (by kernel_rfl) (by kernel_rfl) (by kernel_rfl) (fun _ _ _ h => h) (Or.inl ⟨by rfl, fun w' hSw => ?hy4⟩) (by assumption) ?rest4
  case hy4 =>
    (try dsimp only at hSw)
    go_simp
    (try with_reducible rfl)
  (try simp only [Act.put, List.setIfInBounds_toArray, List.set_cons_zero, List.set_cons_succ])
  refine wpAnyH_at (i := 5) (v := ?v5) (d := 9) rfl rfl (by kernel_rfl) (by kernel_rfl) (by kernel_rfl) (fun _ _ _ h => h) (Or.inl ⟨by rfl, fun w' hSw => ?hy5⟩) (by assumption) ?rest5
  case hy5 =>
    (try dsimp only at hSw)
    go_simp
    (try with_reducible rfl)
  (try simp only [Act.put, List.setIfInBounds_toArray, List.set_cons_zero, List.set_cons_succ])
  refine wpAnyH_at (i := 6) (v := ?v6) (d := 10) rfl rfl (by kernel_rfl) (by kernel_rfl) (by kernel_rfl) (fun _ _ _ h => h) (Or.inl ⟨by rfl, fun w' hSw => ?hy6⟩) (by assumption) ?rest6
  case hy6 =>
    (try dsimp only at hSw)
    go_simp
    (try with_reducible rfl)
  (try simp only [Act.put, List.setIfInBounds_toArray, List.set_cons_zero, List.set_cons_succ])
  refine wpAnyH_at (i := 7) (v := ?v7) (d := 11) rfl rfl (by kernel_rfl) (by kernel_rfl) (by kernel_rfl) (fun _ _ _ h => h) (Or.inl ⟨by rfl, fun w' hSw => ?hy7⟩) (by assumption) ?rest7
  case hy7 =>
    (try dsimp only at hSw)
    go_simp
    (try with_reducible rfl)
  (try simp only [Act.put, List.setIfInBounds_toArray, List.set_cons_zero, List.set_cons_succ])
  refine wpAnyH_ready (rs := [8]) (by kernel_rfl) (by simp) ?_
  refine AllReadyH.cons rfl (fun K' hK' => ?_) AllReadyH.nil
  go_simp
  refine (wof_is r 2 HX.out.2 _ hHeld.2.2.out.2.1).mono ?_
  rintro e w2 ⟨rfl, hb2⟩
  go_wp2_with fail
  refine hK'.out _ _ ?_ (fun hHeld => ?_)
  · exact ShK.keep (by assumption) hb2
  clear hK' K'
  (try simp only [Act.put, List.getElem_toArray, List.getElem_cons_succ, List.getElem_cons_zero, List.setIfInBounds_toArray, List.set_cons_zero, List.set_cons_succ])
  refine wpAnyH_at (i := 9) (v := ?v9) (d := 13) rfl rfl (by kernel_rfl) (by kernel_rfl) (by kernel_rfl) (fun _ _ _ h => h) (Or.inl ⟨by rfl, fun w' hSw => ?hy9⟩) (by assumption) ?rest9
  case hy9 =>
    (try dsimp only at hSw)
    go_simp
    (try with_reducible rfl)
  (try simp only [Act.put, List.setIfInBounds_toArray, List.set_cons_zero, List.set_cons_succ])
  refine wpAnyH_at (i := 10) (v := ?v10) (d := 14) rfl rfl (by kernel_rfl) (by kernel_rfl) (by kernel_rfl) (fun _ _ _ h => h) (Or.inl ⟨by rfl, fun w' hSw => ?hy10⟩) (by assumption) ?rest10
  case hy10 =>
    (try dsimp only at hSw)
    go_simp
    (try with_reducible rfl)
  (try simp only [Act.put, List.setIfInBounds_toArray, List.set_cons_zero, List.set_cons_succ])
  refine wpAnyH_at (i := 11) (v := ?v11) (d := 15) rfl rfl (by kernel_rfl) (by kernel_rfl) (by kernel_rfl) (fun _ _ _ h => h) (Or.inl ⟨by rfl, fun w' hSw => ?hy11⟩) (by assumption) ?rest11
  case hy11 =>
    (try dsimp only at hSw)
    go_simp
    (try with_reducible rfl)
  (try simp only [Act.put, List.setIfInBounds_toArray, List.set_cons_zero, List.set_cons_succ])
  refine wpAnyH_at (i := 12) (v := ?v12) (d := 16) rfl rfl (by kernel_rfl) (by kernel_rfl) (by kernel_rfl) (fun _ _ _ h => h) (Or.inl ⟨by rfl, fun w' hSw => ?hy12⟩) (by assumption) ?rest12
  case hy12 =>
    (try dsimp only at hSw)
    go_simp
    (try with_reducible rfl)
  (try simp only [Act.put, List.setIfInBounds_toArray, List.set_cons_zero, List.set_cons_succ])
  refine wpAnyH_at (i := 14) (v := ?v14) (d := 18) rfl rfl (by kernel_rfl) (by kernel_rfl) (by kernel_rfl) (fun _ _ _ h => h) (Or.inl ⟨by rfl, fun w' hSw => ?hy14⟩) (by assumption) ?rest14
  case hy14 =>
    (try dsimp only at hSw)
    go_simp
    (try with_reducible rfl)
  (try simp only [Act.put, List.setIfInBounds_toArray, List.set_cons_zero, List.set_cons_succ])
  refine wpAnyH_at (i := 15) (v := ?v15) (d := 19) rfl rfl (by kernel_rfl) (by kernel_rfl) (by kernel_rfl) (fun _ _ _ h => h) (Or.inl ⟨by rfl, fun w' hSw => ?hy15⟩) (by assumption) ?rest15
  case hy15 =>
    (try dsimp only at hSw)
    go_simp
    (try with_reducible rfl)
  (try simp only [Act.put, List.setIfInBounds_toArray, List.set_cons_zero, List.set_cons_succ])
  refine wpAnyH_at (i := 16) (v := ?v16) (d := 20) rfl rfl (by kernel_rfl) (by kernel_rfl) (by kernel_rfl) (fun _ _ _ h => h) (Or.inl ⟨by rfl, fun w' hSw => ?hy16⟩) (by assumption) ?rest16
  case hy16 =>
    (try dsimp only at hSw)
    go_simp
    (try with_reducible rfl)
  (try simp only [Act.put, List.setIfInBounds_toArray, List.set_cons_zero, List.set_cons_succ])
  refine wpAnyH_at (i := 17) (v := ?v17) (d := 21) rfl rfl (by kernel_rfl) (by kernel_rfl) (by kernel_rfl) (fun _ _ _ h => h) (Or.inl ⟨by rfl, fun w' hSw => ?hy17⟩) (by assumption) ?rest17
  case hy17 =>
    (try dsimp only at hSw)
    go_simp
    (try with_reducible rfl)
  (try simp only [Act.put, List.setIfInBounds_toArray, List.set_cons_zero, List.set_cons_succ])
  refine wpAnyH_at (i := 18) (v := ?v18) (d := 22) rfl rfl (by kernel_rfl) (by kernel_rfl) (by kernel_rfl) (fun _ _ _ h => h) (Or.inl ⟨by rfl, fun w' hSw => ?hy18⟩) (by assumption) ?rest18
  case hy18 =>
    (try dsimp only at hSw)
    go_simp
    (try with_reducible rfl)
  (try simp only [Act.put, List.setIfInBounds_toArray, List.set_cons_zero, List.set_cons_succ])
  refine wpAnyH_ready (rs := [13]) (by kernel_rfl) (by simp) ?_
  refine AllReadyH.cons rfl (fun K' hK' => ?_) AllReadyH.nil
  go_simp
  refine (HCO.out _ hHeld.2.2.out.1).mono ?_
  rintro e w3 ⟨rfl, hb2⟩
  go_wp2_with fail
  refine hK'.out _ _ ?_ (fun hHeld => ?_)
  · exact ShK.keep (by assumption) hb2
  clear hK' K'
  (try simp only [Act.put, List.getElem_toArray, List.getElem_cons_succ, List.getElem_cons_zero, List.setIfInBounds_toArray, List.set_cons_zero, List.set_cons_succ])
  refine wpAnyH_at (i := 19) (v := ?v19) (d := 23) rfl rfl (by kernel_rfl) (by kernel_rfl) (by kernel_rfl) (fun _ _ _ h => h) (Or.inl ⟨by rfl, fun w' hSw => ?hy19⟩) (by assumption) ?rest19
  case hy19 =>
    (try dsimp only at hSw)
    go_simp
    (try with_reducible rfl)
  (try simp only [Act.put, List.setIfInBounds_toArray, List.set_cons_zero, List.set_cons_succ])
  refine wpAnyH_at (i := 20) (v := ?v20) (d := 24) rfl rfl (by kernel_rfl) (by kernel_rfl) (by kernel_rfl) (fun _ _ _ h => h) (Or.inl ⟨by rfl, fun w' hSw => ?hy20⟩) (by assumption) ?rest20
  case hy20 =>
    (try dsimp only at hSw)
    go_simp
    (try with_reducible rfl)
  (try simp only [Act.put, List.setIfInBounds_toArray, List.set_cons_zero, List.set_cons_succ])
  refine wpAnyH_done (by kernel_rfl) ?_ _
  go_wp2
  go_end0
  rw [HX.out.1]
  exact ⟨rfl, hHeld.2.2.out.1, KeepC.of hHeld.2.2.out.2.2.2⟩
set_option maxHeartbeats 2000000 in
set_option maxRecDepth 100000 in
theorem fits_app (p C : Nat) (L : List Cl) (r : Int) (w : World) (h : Sh w p C L) (hT : WTabs w) (hB : LBT w) (hC : 2 ≤ C) (hC2 : C ≤ 1000) (hL : L.length ≤ 10000000) (h9 : r ≠ 9) (h10 : r ≠ 10) (h2 : cells r = 2) (hr : L.length % C = C - 1) :
    Calls Tryd.prog 21 #[.pointer (some ⟨p, 0, none⟩), .int .i32 r] w fun e w' => e = .returned (.tuple #[]) ∧ Sh w' p C (fitsY C L r) ∧ KeepC p w w' := by
  obtain ⟨A, m, c, hm, hmm, HK⟩ := ShK.new h hT hB
  have HK := hide HK
  have hpw := h.lt
  have hn : fitsY C L r = L ++ [blankC] := by unfold fitsY; rw [if_pos ⟨h9, h10, h2, hr⟩]
  have HX := hide (show _ ∧ _ from ⟨hn, h2⟩)
  have HCO := hide (fun W (h : Sh W p C L) => col_any p C L W h hC hC2)
  have q9 : (r != 9) = true := by simpa using h9
  have q10 : (r != 10) = true := by simpa using h10
  obtain ⟨k, hk⟩ : ∃ k, L.length % C = k := ⟨_, rfl⟩
  rw [hk] at HCO hr
  obtain ⟨c1, hc1⟩ : ∃ c1 : Int, (C : Int) - 1 = c1 := ⟨_, rfl⟩
  have hw1 : IntKind.i64.wrap ((C : Int) - 1) = c1 := by rw [Go.wrap_small _ (by omega) (by omega)]; exact hc1
  have q3 : ((k : Int) == c1) = true := by simp; omega
  have HR := hide hr
  clear h hT hB hm hn h2 h9 h10 hk hr hc1
  go_enter Tryd.func21, Tryd.ntmps21
  go_wp2
  refine wp_region_held_drew (S := (fun W => W.cell? ⟨p, 0, none⟩ = some (.int .i64 C) ∧ W.cell? ⟨p, 1, none⟩ = some (.slice A m c) ∧ Hid (Sh W p C L ∧ WTabs W ∧ LBT W ∧ Below w.heap.size w W))) (by kernel_rfl) ?_ (fun hHeld => ?_)
  · exact ShK.keep HK.out (drew_b _)
  refine wpAnyH_at (i := 0) (v := ?v0) (d := 4) rfl rfl (by kernel_rfl) (by kernel_rfl) (by kernel_rfl) (fun _ _ _ h => h) (Or.inl ⟨by rfl, fun w' hSw => ?hy0⟩) (by assumption) ?rest0
  case hy0 =>
    (try dsimp only at hSw)
    go_simp
    (try with_reducible rfl)
  (try simp only [Act.put, List.setIfInBounds_toArray, List.set_cons_zero, List.set_cons_succ])
  refine wpAnyH_at (i := 1) (v := ?v1) (d := 5) rfl rfl (by kernel_rfl) (by kernel_rfl) (by kernel_rfl) (fun _ _ _ h => h) (Or.inl ⟨by rfl, fun w' hSw => ?hy1⟩) (by assumption) ?rest1
  case hy1 =>
    (try dsimp only at hSw)
    go_simp
    (try with_reducible rfl)
  (try simp only [Act.put, List.setIfInBounds_toArray, List.set_cons_zero, List.set_cons_succ])
  refine wpAnyH_at (i := 2) (v := ?v2) (d := 6) rfl rfl (by kernel_rfl) (by kernel_rfl) (by kernel_rfl) (fun _ _ _ h => h) (Or.inl ⟨by rfl, fun w' hSw => ?hy2⟩) (by assumption) ?rest2
  case hy2 =>
    (try dsimp only at hSw)
    go_simp
    (try with_reducible rfl)
  (try simp only [Act.put, List.setIfInBounds_toArray, List.set_cons_zero, List.set_cons_succ])
  refine wpAnyH_at (i := 3) (v := ?v3) (d := 7) rfl rfl (by kernel_rfl) (by kernel_rfl) (by kernel_rfl) (fun _ _ _ h => h) (Or.inl ⟨by rfl, fun w' hSw => ?hy3⟩) (by assumption) ?rest3
  case hy3 =>
    (try dsimp only at hSw)
    go_simp
    (try with_reducible rfl)
  (try simp only [Act.put, List.setIfInBounds_toArray, List.set_cons_zero, List.set_cons_succ])
  refine wpAnyH_at (i := 4) (v := ?v4) (d := 8) rfl rfl (by kernel_rfl) (by kernel_rfl) (by kernel_rfl) (fun _ _ _ h => h) (Or.inl ⟨by rfl, fun w' hSw => ?hy4⟩) (by assumption) ?rest4
  case hy4 =>
    (try dsimp only at hSw)
    go_simp
    (try with_reducible rfl)
  (try simp only [Act.put, List.setIfInBounds_toArray, List.set_cons_zero, List.set_cons_succ])
  refine wpAnyH_at (i := 5) (v := ?v5) (d := 9) rfl rfl (by kernel_rfl) (by kernel_rfl) (by kernel_rfl) (fun _ _ _ h => h) (Or.inl ⟨by rfl, fun w' hSw => ?hy5⟩) (by assumption) ?rest5
  case hy5 =>
    (try dsimp only at hSw)
    go_simp
    (try with_reducible rfl)
  (try simp only [Act.put, List.setIfInBounds_toArray, List.set_cons_zero, List.set_cons_succ])
  refine wpAnyH_at (i := 6) (v := ?v6) (d := 10) rfl rfl (by kernel_rfl) (by kernel_rfl) (by kernel_rfl) (fun _ _ _ h => h) (Or.inl ⟨by rfl, fun w' hSw => ?hy6⟩) (by assumption) ?rest6
  case hy6 =>
    (try dsimp only at hSw)
    go_simp
    (try with_reducible rfl)
  (try simp only [Act.put, List.setIfInBounds_toArray, List.set_cons_zero, List.set_cons_succ])
  refine wpAnyH_at (i := 7) (v := ?v7) (d := 11) rfl rfl (by kernel_rfl) (by kernel_rfl) (by kernel_rfl) (fun _ _ _ h => h) (Or.inl ⟨by rfl, fun w' hSw => ?hy7⟩) (by assumption) ?rest7
  case hy7 =>
    (try dsimp only at hSw)
    go_simp
    (try with_reducible rfl)
  (try simp only [Act.put, List.setIfInBounds_toArray, List.set_cons_zero, List.set_cons_succ])
  refine wpAnyH_ready (rs := [8]) (by kernel_rfl) (by simp) ?_
  refine AllReadyH.cons rfl (fun K' hK' => ?_) AllReadyH.nil
  go_simp
  refine (wof_is r 2 HX.out.2 _ hHeld.2.2.out.2.1).mono ?_
  rintro e w2 ⟨rfl, hb2⟩
  go_wp2_with fail
  refine hK'.out _ _ ?_ (fun hHeld => ?_)
  · exact ShK.keep (by assumption) hb2
  clear hK' K'
  (try simp only [Act.put, List.getElem_toArray, List.getElem_cons_succ, List.getElem_cons_zero, List.setIfInBounds_toArray, List.set_cons_zero, List.set_cons_succ])
  refine wpAnyH_at (i := 9) (v := ?v9) (d := 13) rfl rfl (by kernel_rfl) (by kernel_rfl) (by kernel_rfl) (fun _ _ _ h => h) (Or.inl ⟨by rfl, fun w' hSw => ?hy9⟩) (by assumption) ?rest9
  case hy9 =>
    (try dsimp only at hSw)
    go_simp
    (try with_reducible rfl)
  (try simp only [Act.put, List.setIfInBounds_toArray, List.set_cons_zero, List.set_cons_succ])
  refine wpAnyH_at (i := 10) (v := ?v10) (d := 14) rfl rfl (by kernel_rfl) (by kernel_rfl) (by kernel_rfl) (fun _ _ _ h => h) (Or.inl ⟨by rfl, fun w' hSw => ?hy10⟩) (by assumption) ?rest10
  case hy10 =>
    (try dsimp only at hSw)
    go_simp
    (try with_reducible rfl)
  (try simp only [Act.put, List.setIfInBounds_toArray, List.set_cons_zero, List.set_cons_succ])
  refine wpAnyH_at (i := 11) (v := ?v11) (d := 15) rfl rfl (by kernel_rfl) (by kernel_rfl) (by kernel_rfl) (fun _ _ _ h => h) (Or.inl ⟨by rfl, fun w' hSw => ?hy11⟩) (by assumption) ?rest11
  case hy11 =>
    (try dsimp only at hSw)
    go_simp
    (try with_reducible rfl)
  (try simp only [Act.put, List.setIfInBounds_toArray, List.set_cons_zero, List.set_cons_succ])
  refine wpAnyH_at (i := 12) (v := ?v12) (d := 16) rfl rfl (by kernel_rfl) (by kernel_rfl) (by kernel_rfl) (fun _ _ _ h => h) (Or.inl ⟨by rfl, fun w' hSw => ?hy12⟩) (by assumption) ?rest12
  case hy12 =>
    (try dsimp only at hSw)
    go_simp
    (try with_reducible rfl)
  (try simp only [Act.put, List.setIfInBounds_toArray, List.set_cons_zero, List.set_cons_succ])
  refine wpAnyH_at (i := 14) (v := ?v14) (d := 18) rfl rfl (by kernel_rfl) (by kernel_rfl) (by kernel_rfl) (fun _ _ _ h => h) (Or.inl ⟨by rfl, fun w' hSw => ?hy14⟩) (by assumption) ?rest14
  case hy14 =>
    (try dsimp only at hSw)
    go_simp
    (try with_reducible rfl)
  (try simp only [Act.put, List.setIfInBounds_toArray, List.set_cons_zero, List.set_cons_succ])
  refine wpAnyH_at (i := 15) (v := ?v15) (d := 19) rfl rfl (by kernel_rfl) (by kernel_rfl) (by kernel_rfl) (fun _ _ _ h => h) (Or.inl ⟨by rfl, fun w' hSw => ?hy15⟩) (by assumption) ?rest15
  case hy15 =>
    (try dsimp only at hSw)
    go_simp
    (try with_reducible rfl)
  (try simp only [Act.put, List.setIfInBounds_toArray, List.set_cons_zero, List.set_cons_succ])
  refine wpAnyH_at (i := 16) (v := ?v16) (d := 20) rfl rfl (by kernel_rfl) (by kernel_rfl) (by kernel_rfl) (fun _ _ _ h => h) (Or.inl ⟨by rfl, fun w' hSw => ?hy16⟩) (by assumption) ?rest16
  case hy16 =>
    (try dsimp only at hSw)
    go_simp
    (try with_reducible rfl)
  (try simp only [Act.put, List.setIfInBounds_toArray, List.set_cons_zero, List.set_cons_succ])
  refine wpAnyH_at (i := 17) (v := ?v17) (d := 21) rfl rfl (by kernel_rfl) (by kernel_rfl) (by kernel_rfl) (fun _ _ _ h => h) (Or.inl ⟨by rfl, fun w' hSw => ?hy17⟩) (by assumption) ?rest17
  case hy17 =>
    (try dsimp only at hSw)
    go_simp
    (try with_reducible rfl)
  (try simp only [Act.put, List.setIfInBounds_toArray, List.set_cons_zero, List.set_cons_succ])
  refine wpAnyH_at (i := 18) (v := ?v18) (d := 22) rfl rfl (by kernel_rfl) (by kernel_rfl) (by kernel_rfl) (fun _ _ _ h => h) (Or.inl ⟨by rfl, fun w' hSw => ?hy18⟩) (by assumption) ?rest18
  case hy18 =>
    (try dsimp only at hSw)
    go_simp
    (try with_reducible rfl)
  (try simp only [Act.put, List.setIfInBounds_toArray, List.set_cons_zero, List.set_cons_succ])
  refine wpAnyH_ready (rs := [13]) (by kernel_rfl) (by simp) ?_
  refine AllReadyH.cons rfl (fun K' hK' => ?_) AllReadyH.nil
  go_simp
  refine (HCO.out _ hHeld.2.2.out.1).mono ?_
  rintro e w3 ⟨rfl, hb2⟩
  go_wp2_with fail
  refine hK'.out _ _ ?_ (fun hHeld => ?_)
  · exact ShK.keep (by assumption) hb2
  clear hK' K'
  (try simp only [Act.put, List.getElem_toArray, List.getElem_cons_succ, List.getElem_cons_zero, List.setIfInBounds_toArray, List.set_cons_zero, List.set_cons_succ])
  refine wpAnyH_at (i := 19) (v := ?v19) (d := 23) rfl rfl (by kernel_rfl) (by kernel_rfl) (by kernel_rfl) (fun _ _ _ h => h) (Or.inl ⟨by rfl, fun w' hSw => ?hy19⟩) (by assumption) ?rest19
  case hy19 =>
    (try dsimp only at hSw)
    go_simp
    (try with_reducible rfl)
  (try simp only [Act.put, List.setIfInBounds_toArray, List.set_cons_zero, List.set_cons_succ])
  refine wpAnyH_at (i := 20) (v := ?v20) (d := 24) rfl rfl (by kernel_rfl) (by kernel_rfl) (by kernel_rfl) (fun _ _ _ h => h) (Or.inl ⟨by rfl, fun w' hSw => ?hy20⟩) (by assumption) ?rest20
  case hy20 =>
    (try dsimp only at hSw)
    go_simp
    (try with_reducible rfl)
  (try simp only [Act.put, List.setIfInBounds_toArray, List.set_cons_zero, List.set_cons_succ])
  refine wpAnyH_done (by kernel_rfl) ?_ _
  go_wp2
  have HS3 := hide hHeld.2.2.out.1
  have HLB := hide hHeld.2.2.out.2.2.1
  have HK3 := hide (KeepC.of (p := p) hHeld.2.2.out.2.2.2)
  clear hHeld hb2 HK
  obtain ⟨A5, m5, cp5, hm5, hc5, -, -, r5, rf5, hbk5, how5⟩ := HS3.out.reads
  obtain ⟨s50, s51, s52, s53, s54, s55⟩ := HLB.out.reads
  have hpl5 := HS3.out.lt
  have hbl5 : Below w3.heap.size w3 (w3.alloc (.cells (clCells blankC).toArray 39)).drew := ((Below.refl w3.heap.size w3).alloc (Nat.le_refl _) _).drew
  have HC5 := hide (show Blk (w3.alloc (.cells (clCells blankC).toArray 39)).drew w3.heap.size 39 (clCells blankC) from Blk.new w3 _ _)
  have HO5 := hide (how5.below hbl5)
  have HB5 := hide (hbk5.below hbl5)
  have HKb5 := hide (KeepC.of (p := p) hbl5)
  obtain ⟨k5, hk5⟩ : ∃ k, (L ++ [blankC]).length = k := ⟨_, rfl⟩
  have HL5 := hide hk5
  clear hbk5 how5 hbl5 hm5 hk5
  go_region_law (refine step_appY (by rfl) (.tmp 29) (.tmp 31) (by rfl) (p + 1) (by simp; omega) (.slice A5 m5 cp5) _ blankC w3.heap.size 1 (by simp [Act.eval, Act.put]) (by simp [Act.eval, Act.put]) HO5.out HC5.out (by omega) ?_; intro v5 w5 ho5 hg5; obtain ⟨B5, c5, rfl, -, -⟩ := ho5.formL HL5.out; have HA5 := hide (Sh.app HB5.out HO5.out ho5 hg5); have HM5 := hide (Sh.mid HB5.out HO5.out hg5); have q5 := HM5.out.cell (i := 1) rfl; have ff5 := fun i => HM5.out.frozen i; clear ho5 hg5)
  all_goals go_wp2
  all_goals go_end0
  all_goals exact ⟨rfl, by rw [HX.out.1]; exact HA5.out.1, (HK3.out.trans HKb5.out).trans HA5.out.2⟩
theorem fits_any (p C : Nat) (L : List Cl) (r : Int) (w : World) (h : Sh w p C L) (hT : WTabs w) (hB : LBT w) (hC : 2 ≤ C) (hC2 : C ≤ 1000) (hL : L.length ≤ 10000000) :
    Calls Tryd.prog 21 #[.pointer (some ⟨p, 0, none⟩), .int .i32 r] w fun e w' => e = .returned (.tuple #[]) ∧ Sh w' p C (fitsY C L r) ∧ KeepC p w w' := by
  by_cases h9 : r = 9
  · subst h9; exact fits_9 p C L w h hT hB
  by_cases h10 : r = 10
  · subst h10; exact fits_10 p C L w h hT hB
  by_cases h2 : cells r = 2
  · by_cases hr : L.length % C = C - 1
    · exact fits_app p C L r w h hT hB hC hC2 hL h9 h10 h2 hr
    · exact fits_room p C L r w h hT hB hC hC2 hL h9 h10 h2 hr
  · exact fits_n2 p C L r _ w h hT hB h9 h10 rfl h2
end Go.Proofs.YtmpajkfbiocmiaaDoor
namespace Go.Proofs.YtmpajkfbiocmiaaDoor
open Go.RowKit

def lineY (C : Nat) (L : List Cl) : List Cl := L ++ List.replicate (C - L.length % C) blankC
theorem lineY_len (C : Nat) (L : List Cl) : (lineY C L).length ≤ L.length + C := by unfold lineY; rw [List.length_append, List.length_replicate]; omega
theorem rep_snoc {α : Type} (L : List α) (j : Nat) (x : α) : L ++ List.replicate j x ++ [x] = L ++ List.replicate (j + 1) x := by rw [List.replicate_succ', List.append_assoc]
set_option maxHeartbeats 2000000 in
set_option maxRecDepth 100000 in
theorem line_any (p C : Nat) (L : List Cl) (w : World) (h : Sh w p C L) (hT : WTabs w) (hB : LBT w) (hC : 2 ≤ C) (hC2 : C ≤ 1000) (hL : L.length ≤ 10000000) (hg : 1 < p) :
    Calls Tryd.prog 22 #[.pointer (some ⟨p, 0, none⟩)] w fun e w' => e = .returned (.tuple #[]) ∧ Sh w' p C (lineY C L) ∧ KeepC p w w' := by
  obtain ⟨A, m, c, hm, hmm, HK⟩ := ShK.new h hT hB
  have HK := hide HK
  have hpw := h.lt
  have HCO := hide (fun W (h : Sh W p C L) => col_any p C L W h hC hC2)
  have hN0 : L.length % C < C := Nat.mod_lt _ (by omega)
  obtain ⟨k, hk⟩ : ∃ k, L.length % C = k := ⟨_, rfl⟩
  rw [hk] at HCO hN0
  obtain ⟨N, hN⟩ : ∃ N, C - k = N := ⟨_, rfl⟩
  have hw1 : IntKind.i64.wrap ((C : Int) - (k : Int)) = (N : Int) := by rw [Go.wrap_small _ (by omega) (by omega)]; omega
  have hN1 : N ≤ 1000 := by omega
  have HX := hide (show lineY C L = L ++ List.replicate N blankC by unfold lineY; rw [hk, hN])
  clear h hT hB hm hk hN
  go_enter Tryd.func22, Tryd.ntmps22
  go_wp2
  refine wp_region_held_drew (S := (fun W => W.cell? ⟨p, 0, none⟩ = some (.int .i64 C) ∧ W.cell? ⟨p, 1, none⟩ = some (.slice A m c) ∧ Hid (Sh W p C L ∧ WTabs W ∧ LBT W ∧ Below w.heap.size w W))) (by kernel_rfl) ?_ (fun hHeld => ?_)
  · exact ShK.keep HK.out (drew_b _)
  refine wpAnyH_at (i := 0) (v := ?v0) (d := 3) rfl rfl (by kernel_rfl) (by kernel_rfl) (by kernel_rfl) (fun _ _ _ h => h) (Or.inl ⟨by rfl, fun w' hSw => ?hy0⟩) (by assumption) ?rest0
  case hy0 =>
    (try dsimp only at hSw)
    go_simp
    (try with_reducible rfl)
  (try simp only [Act.put, List.setIfInBounds_toArray, List.set_cons_zero, List.set_cons_succ])
  refine wpAnyH_at (i := 1) (v := ?v1) (d := 4) rfl rfl (by kernel_rfl) (by kernel_rfl) (by kernel_rfl) (fun _ _ _ h => h) (Or.inl ⟨by rfl, fun w' hSw => ?hy1⟩) (by assumption) ?rest1
  case hy1 =>
    (try dsimp only at hSw)
    go_simp
    (try with_reducible rfl)
  (try simp only [Act.put, List.setIfInBounds_toArray, List.set_cons_zero, List.set_cons_succ])
  refine wpAnyH_at (i := 2) (v := ?v2) (d := 5) rfl rfl (by kernel_rfl) (by kernel_rfl) (by kernel_rfl) (fun _ _ _ h => h) (Or.inl ⟨by rfl, fun w' hSw => ?hy2⟩) (by assumption) ?rest2
  case hy2 =>
    (try dsimp only at hSw)
    go_simp
    (try with_reducible rfl)
  (try simp only [Act.put, List.setIfInBounds_toArray, List.set_cons_zero, List.set_cons_succ])
  refine wpAnyH_at (i := 3) (v := ?v3) (d := 6) rfl rfl (by kernel_rfl) (by kernel_rfl) (by kernel_rfl) (fun _ _ _ h => h) (Or.inl ⟨by rfl, fun w' hSw => ?hy3⟩) (by assumption) ?rest3
  case hy3 =>
    (try dsimp only at hSw)
    go_simp
    (try with_reducible rfl)
  (try simp only [Act.put, List.setIfInBounds_toArray, List.set_cons_zero, List.set_cons_succ])
  refine wpAnyH_at (i := 4) (v := ?v4) (d := 7) rfl rfl (by kernel_rfl) (by kernel_rfl) (by kernel_rfl) (fun _ _ _ h => h) (Or.inl ⟨by rfl, fun w' hSw => ?hy4⟩) (by assumption) ?rest4
  case hy4 =>
    (try dsimp only at hSw)
    go_simp
    (try with_reducible rfl)
  (try simp only [Act.put, List.setIfInBounds_toArray, List.set_cons_zero, List.set_cons_succ])
  refine wpAnyH_ready (rs := [5]) (by kernel_rfl) (by simp) ?_
  refine AllReadyH.cons rfl (fun K' hK' => ?_) AllReadyH.nil
  go_simp
  refine (HCO.out _ hHeld.2.2.out.1).mono ?_
  rintro e w2 ⟨rfl, hb2⟩
  go_wp2_with fail
  refine hK'.out _ _ ?_ (fun hHeld => ?_)
  · exact ShK.keep (by assumption) hb2
  clear hK' K'
  (try simp only [Act.put, List.getElem_toArray, List.getElem_cons_succ, List.getElem_cons_zero, List.setIfInBounds_toArray, List.set_cons_zero, List.set_cons_succ])
  refine wpAnyH_at (i := 6) (v := ?v6) (d := 9) rfl rfl (by kernel_rfl) (by kernel_rfl) (by kernel_rfl) (fun _ _ _ h => h) (Or.inl ⟨by rfl, fun w' hSw => ?hy6⟩) (by assumption) ?rest6
  case hy6 =>
    (try dsimp only at hSw)
    go_simp
    (try with_reducible rfl)
  (try simp only [Act.put, List.setIfInBounds_toArray, List.set_cons_zero, List.set_cons_succ])
  refine wpAnyH_at (i := 7) (v := ?v7) (d := 2) rfl rfl (by kernel_rfl) (by kernel_rfl) (by kernel_rfl) (fun _ _ _ h => h) (Or.inl ⟨by rfl, fun w' hSw => ?hy7⟩) (by assumption) ?rest7
  case hy7 =>
    (try dsimp only at hSw)
    go_simp
    (try with_reducible rfl)
  (try simp only [Act.put, List.setIfInBounds_toArray, List.set_cons_zero, List.set_cons_succ])
  refine wpAnyH_done (by kernel_rfl) ?_ _
  have HS0 := hide hHeld.2.2.out.1
  have HLB0 := hide hHeld.2.2.out.2.2.1
  have HK0 := hide (KeepC.of (p := p) hHeld.2.2.out.2.2.2)
  clear hHeld hb2 HK
  go_wp2
  go_loopw [2] (fun nv wr => ∃ j : Nat, j ≤ N ∧ nv = .int .i64 ((N - j : Nat) : Int) ∧ Hid (Sh wr p C (L ++ List.replicate j blankC)) ∧ Hid (LBT wr) ∧ Hid (KeepC p w wr)) (fun nv _ => (intOf nv).toNat)
  case atStart => exact ⟨0, by omega, rfl, by simpa using HS0, HLB0, HK0⟩
  case round =>
    clear HS0 HLB0 HK0
    obtain ⟨j, hj, rfl, HS1, HLB1, HK1⟩ := hrel
    by_cases hlt : j < N
    · obtain ⟨q, hq⟩ : ∃ q, N - j = q := ⟨_, rfl⟩
      rw [hq]
      have hq0 : (0 : Int) < (q : Int) := by omega
      have hq1 : q ≤ 1000 := by omega
      have HQ := hide hq
      have hlen : (L ++ List.replicate j blankC).length ≤ 10001000 := by rw [List.length_append, List.length_replicate]; omega
      obtain ⟨M, hM⟩ : ∃ M, L ++ List.replicate j blankC = M := ⟨_, rfl⟩
      have HMM := hide (show M ++ [blankC] = L ++ List.replicate (j + 1) blankC by rw [← hM, rep_snoc])
      rw [hM] at HS1 hlen
      clear hM hq
      go_wp2
      obtain ⟨A5, m5, cp5, hm5, hc5, -, -, r5, rf5, hbk5, how5⟩ := HS1.out.reads
      obtain ⟨s50, s51, s52, s53, s54, s55⟩ := HLB1.out.reads
      have hpl5 := HS1.out.lt
      have hbl5 : Below wr.heap.size wr (wr.alloc (.cells (clCells blankC).toArray 39)).drew := ((Below.refl wr.heap.size wr).alloc (Nat.le_refl _) _).drew
      have HC5 := hide (show Blk (wr.alloc (.cells (clCells blankC).toArray 39)).drew wr.heap.size 39 (clCells blankC) from Blk.new wr _ _)
      have HO5 := hide (how5.below hbl5)
      have HB5 := hide (hbk5.below hbl5)
      have HKb5 := hide (KeepC.of (p := p) hbl5)
      obtain ⟨k5, hk5⟩ : ∃ k, (M ++ [blankC]).length = k := ⟨_, rfl⟩
      have HL5 := hide hk5
      clear hbk5 how5 hbl5 hm5 hk5
      go_region_law (refine step_appY (by rfl) (.tmp 18) (.tmp 20) (by rfl) (p + 1) (by simp; omega) (.slice A5 m5 cp5) _ blankC wr.heap.size 1 (by simp [Act.eval, Act.put]) (by simp [Act.eval, Act.put]) HO5.out HC5.out (by omega) ?_; intro v5 w5 ho5 hg5; obtain ⟨B5, c5, rfl, -, -⟩ := ho5.formL HL5.out; have HA5 := hide (Sh.app HB5.out HO5.out ho5 hg5); have HM5 := hide (Sh.mid HB5.out HO5.out hg5); have q5 := HM5.out.cell (i := 1) rfl; have ff5 := fun i => HM5.out.frozen i; clear ho5 hg5)
      all_goals go_wp2
      all_goals go_roundw
      all_goals first
        | exact ⟨j + 1, by omega, by have := HQ.out; congr 1; omega, hide (by rw [← HMM.out]; exact HA5.out.1), hide (HLB1.out.keep (HKb5.out.trans HA5.out.2) hg), hide ((HK1.out.trans HKb5.out).trans HA5.out.2)⟩
        | (simp [intOf]; omega)
    · obtain rfl : j = N := by omega
      have hz : ((j - j : Nat) : Int) = 0 := by omega
      rw [hz]
      go_wp2
      go_end0
      exact ⟨rfl, by rw [HX.out]; exact HS1.out, HK1.out⟩
theorem tab_any (k : Nat) (w : World) (hk : k ≤ 1000) : Calls Tryd.prog 33 #[.int .i64 k] w fun e w' => e = .returned (.int .i64 ((8 - k % 8 : Nat) : Int)) ∧ w = w' := by
  have hm : max (k : Int) 0 = (k : Int) := by omega
  have hk0 : (0 : Int) ≤ (k : Int) := by omega
  obtain ⟨r, hr⟩ : ∃ r, k % 8 = r := ⟨_, rfl⟩
  have hr2 : (k : Int) % 8 = (r : Int) := by omega
  have hw1 : IntKind.i64.wrap (8 - (r : Int)) = ((8 - k % 8 : Nat) : Int) := by rw [Go.wrap_small _ (by omega) (by omega)]; omega
  go_enter Tryd.func33, Tryd.ntmps33
  go_wp2
  go_ret
  exact ⟨ret_cells (by omega), rfl⟩
end Go.Proofs.YtmpajkfbiocmiaaDoor
namespace Go.Proofs.YtmpajkfbiocmiaaDoor
open Go.RowKit

set_option maxHeartbeats 400000 in
theorem wshown_any (r : Int) (w : World) (hT : WTabs w) :
    Calls Tryd.prog 35 #[.int .i32 r] w fun e w' => e = .returned (.int .i32 (shown r)) ∧ Below w.heap.size w w' := by
  have HT := hide hT
  clear hT
  have hb := cells_bd r
  by_cases h : cells r = 0
  · have H := hide h
    clear h hb
    go_enter Tryd.func35, Tryd.ntmps35
    go_wp2_with (go_at_call 26; refine (wof_any r _ HT.out).mono ?_; rw [H.out]; rintro e w1 ⟨rfl, hb1⟩)
    go_ret
    exact ⟨ret_shown (by rw [shown, if_pos H.out]), hb1⟩
  · have H := hide h
    generalize hc : cells r = c at *
    have HC := hide hc
    have hpos : 1 ≤ c := by omega
    clear h hb hc
    go_enter Tryd.func35, Tryd.ntmps35
    go_wp2_with (go_at_call 26; refine (wof_any r _ HT.out).mono ?_; rw [HC.out]; rintro e w1 ⟨rfl, hb1⟩)
    go_ret
    exact ⟨ret_shown (by rw [shown, HC.out, if_neg H.out]), hb1⟩
end Go.Proofs.YtmpajkfbiocmiaaDoor
namespace Go.Proofs.YtmpajkfbiocmiaaDoor
open Go.RowKit

def tabY (C : Nat) (L : List Cl) : Nat := min (8 - L.length % C % 8) (C - L.length % C)
def runeY (C : Nat) (L : List Cl) (r : Int) (s : Sty) : List Cl :=
  if r = 9 then L ++ List.replicate (tabY C L) (mkC 32 1 s) else putY (fitsY C L r) (shown r) (max (cells (shown r)) 1) s
theorem fitsY_len (C : Nat) (L : List Cl) (r : Int) : (fitsY C L r).length ≤ L.length + 1 := by unfold fitsY; split <;> simp
theorem runeY_len (C : Nat) (L : List Cl) (r : Int) (s : Sty) : (runeY C L r s).length ≤ L.length + 8 := by
  unfold runeY
  split
  · rw [List.length_append, List.length_replicate]; unfold tabY; omega
  · have := putY_len (fitsY C L r) (shown r) (max (cells (shown r)) 1) s
    have := fitsY_len C L r
    omega
theorem sty4 {W : World} {z : Nat} {fg : Int} {bo un iv : Bool} (h : Blk W z 28 [.int .i64 fg, .bool bo, .bool un, .bool iv]) : W.cell? ⟨z, 0, none⟩ = some (.int .i64 fg) ∧ W.cell? ⟨z, 1, none⟩ = some (.bool bo) ∧ W.cell? ⟨z, 2, none⟩ = some (.bool un) ∧ W.cell? ⟨z, 3, none⟩ = some (.bool iv) :=
  ⟨h.cell (i := 0) rfl, h.cell (i := 1) rfl, h.cell (i := 2) rfl, h.cell (i := 3) rfl⟩
set_option maxHeartbeats 2000000 in
set_option maxRecDepth 100000 in
theorem rune_not9 (p C : Nat) (L : List Cl) (r fg : Int) (bo un iv : Bool) (w : World) (h : Sh w p C L) (hT : WTabs w) (hB : LBT w) (hC : 2 ≤ C) (hC2 : C ≤ 1000) (hL : L.length ≤ 9000000) (g0 : 1 < p) (g1 : 2 < p) (g2 : 3 < p) (h9 : r ≠ 9) :
    Calls Tryd.prog 23 #[.pointer (some ⟨p, 0, none⟩), .int .i32 r, .agg #[.int .i64 fg, .bool bo, .bool un, .bool iv]] w fun e w' => e = .returned (.tuple #[]) ∧ Sh w' p C (runeY C L r (fg, bo, un, iv)) ∧ KeepC p w w' := by
  have HW1 := hide (Blk.new w 28 [.int .i64 fg, .bool bo, .bool un, .bool iv])
  have hb0 : Below w.heap.size w (w.alloc (.cells #[.int .i64 fg, .bool bo, .bool un, .bool iv] 28)) := (Below.refl _ _).alloc (Nat.le_refl _) _
  have HS0 := hide (h.of hb0)
  have HK0 := hide (KeepC.of (p := p) hb0)
  have HT0 := hide (hT.below hb0)
  have HB0 := hide (hB.below hb0)
  have hpw := h.lt
  have q9 : (r == 9) = false := by simpa using h9
  have HY := hide (show runeY C L r (fg, bo, un, iv) = _ from if_neg h9)
  obtain ⟨r2, hr2⟩ : ∃ r2, shown r = r2 := ⟨_, rfl⟩
  obtain ⟨x, hx⟩ : ∃ x, cells r2 = x := ⟨_, rfl⟩
  obtain ⟨wd, hwd⟩ : ∃ y, max x 1 = y := ⟨_, rfl⟩
  rw [hr2, hx, hwd] at HY
  have HR2 := hide hr2
  have HX := hide hx
  have HLen := hide (show (fitsY C L r).length ≤ 10000000 by have := fitsY_len C L r; omega)
  clear h hT hB h9 hr2 hx
  go_enter Tryd.func23, Tryd.ntmps23
  go_wp2_with fail
  obtain ⟨z, hz⟩ : ∃ z, w.heap.size = z := ⟨_, rfl⟩
  obtain ⟨W1, hW1⟩ : ∃ W, w.alloc (.cells #[.int .i64 fg, .bool bo, .bool un, .bool iv] 28) = W := ⟨_, rfl⟩
  have hpz : z ≠ p := by omega
  rw [hz] at HW1
  rw [show w.alloc (.cells [.int .i64 fg, .bool bo, .bool un, .bool iv].toArray 28) = W1 from hW1] at HW1
  rw [hW1] at HS0 HK0 HT0 HB0
  first | rw [hz, hW1] | rw [hW1]
  clear hb0 hW1 hz hpw
  refine (fits_any p C L r _ HS0.out HT0.out HB0.out hC hC2 (by omega)).mono ?_; rintro e w1 ⟨rfl, hs1, hk1⟩
  have HS1 := hide hs1
  have HK1 := hide (HK0.out.trans hk1)
  have HZ1 := hide (hk1.blk HW1.out hpz (by decide))
  have HT1 := hide (HT0.out.keep hk1 g1 g2)
  clear hs1 hk1 HS0 HK0 HW1 HT0 HB0
  go_wp2_with fail
  refine (wshown_any r _ HT1.out).mono ?_; rw [HR2.out]; rintro e w2 ⟨rfl, hb1⟩
  have HS2 := hide (HS1.out.of hb1)
  have HK2 := hide (HK1.out.trans (KeepC.of hb1))
  have HZ2 := hide (HZ1.out.below hb1)
  have HT2 := hide (HT1.out.below hb1)
  clear hb1 HS1 HK1 HZ1 HT1
  go_wp2_with fail
  refine wp_region_held_drew (S := (fun W => W.cell? ⟨z, 0, none⟩ = some (.int .i64 fg) ∧ W.cell? ⟨z, 1, none⟩ = some (.bool bo) ∧ W.cell? ⟨z, 2, none⟩ = some (.bool un) ∧ W.cell? ⟨z, 3, none⟩ = some (.bool iv))) (by kernel_rfl) ?_ (fun hHeld => ?_)
  · exact sty4 (HZ2.out.below (drew_b _))
  refine wpAnyH_at (i := 0) (v := ?v0) (d := 32) rfl rfl (by kernel_rfl) (by kernel_rfl) (by kernel_rfl) (fun _ _ _ h => h) (Or.inl ⟨by rfl, fun w' hSw => ?hy0⟩) (by assumption) ?rest0
  case hy0 =>
    (try dsimp only at hSw)
    go_simp
    (try with_reducible rfl)
  (try simp only [Act.put, List.setIfInBounds_toArray, List.set_cons_zero, List.set_cons_succ])
  refine wpAnyH_at (i := 1) (v := ?v1) (d := 33) rfl rfl (by kernel_rfl) (by kernel_rfl) (by kernel_rfl) (fun _ _ _ h => h) (Or.inl ⟨by rfl, fun w' hSw => ?hy1⟩) (by assumption) ?rest1
  case hy1 =>
    (try dsimp only at hSw)
    go_simp
    (try with_reducible rfl)
  (try simp only [Act.put, List.setIfInBounds_toArray, List.set_cons_zero, List.set_cons_succ])
  refine wpAnyH_at (i := 2) (v := ?v2) (d := 34) rfl rfl (by kernel_rfl) (by kernel_rfl) (by kernel_rfl) (fun _ _ _ h => h) (Or.inl ⟨by rfl, fun w' hSw => ?hy2⟩) (by assumption) ?rest2
  case hy2 =>
    (try dsimp only at hSw)
    go_simp
    (try with_reducible rfl)
  (try simp only [Act.put, List.setIfInBounds_toArray, List.set_cons_zero, List.set_cons_succ])
  refine wpAnyH_at (i := 5) (v := ?v5) (d := 37) rfl rfl (by kernel_rfl) (by kernel_rfl) (by kernel_rfl) (fun _ _ _ h => h) (Or.inl ⟨by rfl, fun w' hSw => ?hy5⟩) (by assumption) ?rest5
  case hy5 =>
    (try dsimp only at hSw)
    go_simp
    (try with_reducible rfl)
  (try simp only [Act.put, List.setIfInBounds_toArray, List.set_cons_zero, List.set_cons_succ])
  refine wpAnyH_ready (rs := [3]) (by kernel_rfl) (by simp) ?_
  refine AllReadyH.cons rfl (fun K' hK' => ?_) AllReadyH.nil
  go_simp
  refine (wof_is _ x HX.out _ (HT2.out.below (drew_b _))).mono ?_
  rintro e w3 ⟨rfl, hb3⟩
  have HS3 := hide ((HS2.out.of (drew_b _)).of hb3)
  have HZ3 := hide ((HZ2.out.below (drew_b _)).below hb3)
  have HK3 := hide ((HK2.out.trans (KeepC.of (drew_b _))).trans (KeepC.of hb3))
  go_wp2_with fail
  refine hK'.out _ _ ?_ (fun hHeld => ?_)
  · exact sty4 HZ3.out
  clear hK' K'
  (try simp only [Act.put, List.getElem_toArray, List.getElem_cons_succ, List.getElem_cons_zero, List.setIfInBounds_toArray, List.set_cons_zero, List.set_cons_succ])
  refine wpAnyH_ready (rs := [4]) (by kernel_rfl) (by simp) ?_
  refine AllReadyH.cons rfl (fun K' hK' => ?_) AllReadyH.nil
  go_simp
  refine hK'.out _ _ ?_ (fun hHeld => ?_)
  · assumption
  clear hK' K'
  (try simp only [Act.put, List.getElem_toArray, List.getElem_cons_succ, List.getElem_cons_zero, List.setIfInBounds_toArray, List.set_cons_zero, List.set_cons_succ])
  refine wpAnyH_ready (rs := [6]) (by kernel_rfl) (by simp) ?_
  refine AllReadyH.cons rfl (fun K' hK' => ?_) AllReadyH.nil
  go_simp
  refine (sput_any p C _ r2 wd fg bo un iv _ HS3.out HLen.out).mono ?_
  rintro e w4 ⟨rfl, hs4, hk4⟩
  have HS4 := hide hs4
  have HK4 := hide (HK3.out.trans hk4)
  have HZ4 := hide (hk4.blk HZ3.out hpz (by decide))
  clear hs4 hk4
  go_wp2_with fail
  refine hK'.out _ _ ?_ (fun hHeld => ?_)
  · exact sty4 HZ4.out
  clear hK' K'
  (try simp only [Act.put, List.getElem_toArray, List.getElem_cons_succ, List.getElem_cons_zero, List.setIfInBounds_toArray, List.set_cons_zero, List.set_cons_succ])
  refine wpAnyH_done (by kernel_rfl) ?_ _
  go_wp2
  go_end0
  exact ⟨rfl, by rw [HY.out]; exact HS4.out, HK4.out⟩
set_option maxHeartbeats 2000000 in
set_option maxRecDepth 100000 in
theorem rune_9 (p C : Nat) (L : List Cl) (fg : Int) (bo un iv : Bool) (w : World) (h : Sh w p C L) (hT : WTabs w) (hB : LBT w) (hC : 2 ≤ C) (hC2 : C ≤ 1000) (hL : L.length ≤ 9000000) :
    Calls Tryd.prog 23 #[.pointer (some ⟨p, 0, none⟩), .int .i32 9, .agg #[.int .i64 fg, .bool bo, .bool un, .bool iv]] w fun e w' => e = .returned (.tuple #[]) ∧ Sh w' p C (runeY C L 9 (fg, bo, un, iv)) ∧ KeepC p w w' := by
  have HW1 := hide (Blk.new w 28 [.int .i64 fg, .bool bo, .bool un, .bool iv])
  have hb0 : Below w.heap.size w (w.alloc (.cells #[.int .i64 fg, .bool bo, .bool un, .bool iv] 28)) := (Below.refl _ _).alloc (Nat.le_refl _) _
  have HS0 := hide (h.of hb0)
  have HK0 := hide (KeepC.of (p := p) hb0)
  have HT0 := hide (hT.below hb0)
  have HB0 := hide (hB.below hb0)
  have hpw := h.lt
  have HY := hide (show runeY C L 9 (fg, bo, un, iv) = _ from if_pos rfl)
  have HCO := hide (fun W (h : Sh W p C L) => col_any p C L W h hC hC2)
  have hN0 : L.length % C < C := Nat.mod_lt _ (by omega)
  unfold tabY at HY
  obtain ⟨k, hk⟩ : ∃ k, L.length % C = k := ⟨_, rfl⟩
  rw [hk] at HCO hN0 HY
  have HTA := hide (fun W => tab_any k W (by omega))
  obtain ⟨a, ha⟩ : ∃ a, 8 - k % 8 = a := ⟨_, rfl⟩
  obtain ⟨b, hb⟩ : ∃ b, C - k = b := ⟨_, rfl⟩
  obtain ⟨N, hN⟩ : ∃ N, min a b = N := ⟨_, rfl⟩
  rw [ha] at HTA
  rw [ha, hb, hN] at HY
  have hw1 : IntKind.i64.wrap ((C : Int) - (k : Int)) = (b : Int) := by rw [Go.wrap_small _ (by omega) (by omega)]; omega
  have hmn : min (a : Int) (b : Int) = (N : Int) := by omega
  have hN1 : N ≤ 8 := by omega
  clear h hT hB hk ha hb hN
  go_enter Tryd.func23, Tryd.ntmps23
  go_wp2_with fail
  obtain ⟨z, hz⟩ : ∃ z, w.heap.size = z := ⟨_, rfl⟩
  obtain ⟨W1, hW1⟩ : ∃ W, w.alloc (.cells #[.int .i64 fg, .bool bo, .bool un, .bool iv] 28) = W := ⟨_, rfl⟩
  have hpz : z ≠ p := by omega
  rw [hz] at HW1
  rw [show w.alloc (.cells [.int .i64 fg, .bool bo, .bool un, .bool iv].toArray 28) = W1 from hW1] at HW1
  rw [hW1] at HS0 HK0 HT0 HB0
  first | rw [hz, hW1] | rw [hW1]
  clear hb0 hW1 hz hpw
  obtain ⟨A, m, c, hm, hmm, HK⟩ := ShK.new HS0.out HT0.out HB0.out
  have HK := hide HK
  clear hm
  go_region_held3 (fun W => W.cell? ⟨p, 0, none⟩ = some (.int .i64 C) ∧ W.cell? ⟨p, 1, none⟩ = some (.slice A m c) ∧ Hid (Sh W p C L ∧ WTabs W ∧ LBT W ∧ Below W1.heap.size W1 W))
    (first | exact ShK.keep HK.out (drew_b _) | assumption | exact ShK.keep (by assumption) hb2)
    (first
      | (go_at_call 32; refine (HCO.out _ (by assumption : _ ∧ _ ∧ Hid (_ ∧ WTabs _ ∧ LBT _ ∧ Below W1.heap.size W1 _)).2.2.out.1).mono ?_; rintro e w2 ⟨rfl, hb2⟩)
      | (go_at_call 33; refine (HTA.out _).mono ?_; rintro e w3 ⟨rfl, rfl⟩))
  all_goals (
    rename_i hH
    have HS2 := hide hH.2.2.out.1
    have HK2 := hide (HK0.out.trans (KeepC.of (p := p) hH.2.2.out.2.2.2))
    have HZ2 := hide (HW1.out.below hH.2.2.out.2.2.2)
    clear hH
    go_wp2_with fail
    go_loopw [6] (fun nv wr => ∃ j : Nat, j ≤ N ∧ nv = .int .i64 ((N - j : Nat) : Int) ∧ Hid (Sh wr p C (L ++ List.replicate j (mkC 32 1 (fg, bo, un, iv)))) ∧ Hid (Blk wr z 28 [.int .i64 fg, .bool bo, .bool un, .bool iv]) ∧ Hid (KeepC p w wr)) (fun nv _ => (intOf nv).toNat)
    case atStart => exact ⟨0, by omega, rfl, by simpa using HS2, HZ2, HK2⟩
    case round =>
      clear HS2 HZ2 HK2
      obtain ⟨j, hj, rfl, HS3, HZ3, HK3⟩ := hrel
      by_cases hlt : j < N
      · obtain ⟨q, hq⟩ : ∃ q, N - j = q := ⟨_, rfl⟩
        rw [hq]
        have hq0 : (0 : Int) < (q : Int) := by omega
        have hq1 : q ≤ 1000 := by omega
        have HQ := hide hq
        have hlen : (L ++ List.replicate j (mkC 32 1 (fg, bo, un, iv))).length ≤ 10000000 := by rw [List.length_append, List.length_replicate]; omega
        obtain ⟨z0, z1, z2, z3⟩ := sty4 HZ3.out
        clear hq
        go_wp2_with fail
        refine (sput_any p C _ 32 1 fg bo un iv _ HS3.out hlen).mono ?_; rintro e w4 ⟨rfl, hs4, hk4⟩
        have HS4 := hide hs4
        have HK4 := hide (HK3.out.trans hk4)
        have HZ4 := hide (hk4.blk HZ3.out hpz (by decide))
        clear hs4 hk4
        go_wp2_with fail
        go_roundw
        case rel => exact ⟨j + 1, by omega, by have := HQ.out; congr 1; omega, hide (by rw [← rep_snoc]; exact HS4.out), HZ4, HK4⟩
        case measure => simp [intOf]; omega
      · obtain rfl : j = N := by omega
        have hzz : ((j - j : Nat) : Int) = 0 := by omega
        rw [hzz]
        go_wp2
        exact bodyPost_ret (results_none rfl _ _ _) rfl ⟨rfl, by rw [HY.out]; exact HS3.out, HK3.out⟩)
theorem rune_any (p C : Nat) (L : List Cl) (r fg : Int) (bo un iv : Bool) (w : World) (h : Sh w p C L) (hT : WTabs w) (hB : LBT w) (hC : 2 ≤ C) (hC2 : C ≤ 1000) (hL : L.length ≤ 9000000) (g0 : 1 < p) (g1 : 2 < p) (g2 : 3 < p) :
    Calls Tryd.prog 23 #[.pointer (some ⟨p, 0, none⟩), .int .i32 r, .agg #[.int .i64 fg, .bool bo, .bool un, .bool iv]] w fun e w' => e = .returned (.tuple #[]) ∧ Sh w' p C (runeY C L r (fg, bo, un, iv)) ∧ KeepC p w w' := by
  by_cases h9 : r = 9
  · subst h9; exact rune_9 p C L fg bo un iv w h hT hB hC hC2 hL
  · exact rune_not9 p C L r fg bo un iv w h hT hB hC hC2 hL g0 g1 g2 h9
end Go.Proofs.YtmpajkfbiocmiaaDoor
namespace Go.Proofs.YtmpajkfbiocmiaaDoor
open Go.RowKit

theorem ret_beg {k k' : IntKind} {a b a' b' : Int} (h : a = b) (h' : a' = b') : Ending.returned (.tuple #[.int k a, .int k' a']) = .returned (.tuple #[.int k b, .int k' b']) := by rw [h, h']

end Go.Proofs.YtmpajkfbiocmiaaDoor
namespace Go.Proofs.YtmpajkfbiocmiaaDoor
open Go.RowKit

theorem and63 (b : UInt8) : bits .and .u8 (b.toNat : Int) 63 = ((b.toNat % 64 : Nat) : Int) := by
  have := u8_and_nat b.toNat 63 b.toNat_lt (by omega)
  rw [show ((63 : Nat) : Int) = 63 from rfl] at this
  rw [this, show (63 : Nat) = 2 ^ 6 - 1 from rfl, Nat.and_two_pow_sub_one_eq_mod]
theorem ret_nxt {p q : Int × Nat × Bool} (h : p = q) : Ending.returned (.tuple #[.int .i32 q.1, .int .i64 q.2.1, .bool q.2.2]) = .returned (.tuple #[.int .i32 p.1, .int .i64 p.2.1, .bool p.2.2]) := by rw [h]
theorem good_end {s : ByteArray} {i n : Nat} {x : Int} (hi : i < s.size) (hn : n = begN (s[i].toNat : Int)) (h0 : 1 ≤ n) (h1 : i + n ≤ s.size) (hx : x = acc s i n) (hq : ((putS x).toList == (s.extract i (i + n)).toList) = true) :
    Ending.returned (.tuple #[.int .i32 x, .int .i64 n, .bool true]) = .returned (.tuple #[.int .i32 (nxt s i).1, .int .i64 (nxt s i).2.1, .bool (nxt s i).2.2]) := by
  subst hx
  rw [nxt_good hi hn h0 h1 (toList_eq hq)]
theorem bad_end {s : ByteArray} {i n : Nat} {x : Int} (hi : i < s.size) (hn : n = begN (s[i].toNat : Int)) (hx : x = acc s i n) (hq : ((putS x).toList == (s.extract i (i + n)).toList) = false) :
    Ending.returned (.tuple #[.int .i32 65533, .int .i64 1, .bool false]) = .returned (.tuple #[.int .i32 (nxt s i).1, .int .i64 (nxt s i).2.1, .bool (nxt s i).2.2]) := by
  subst hx
  rw [nxt_bad hi hn (.inr (.inr (toList_ne hq)))]
  rfl

theorem dec_in (s : ByteArray) (pos : Nat) (h : pos < s.size) : 1 ≤ (Utf8.decode s pos).2 ∧ pos + (Utf8.decode s pos).2 ≤ s.size := by
  refine ⟨Lib.decode_width_pos s pos h, ?_⟩
  have e := nxt_dec s pos h
  have e2 : (nxt s pos).2.1 = (Utf8.decode s pos).2 := by rw [e, dec3]
  rw [← e2]
  by_cases c : 0 < begN ((s.get! pos).toNat : Int) ∧ pos + begN ((s.get! pos).toNat : Int) ≤ s.size ∧ putS (acc s pos (begN ((s.get! pos).toNat : Int))) = s.extract pos (pos + begN ((s.get! pos).toNat : Int))
  · unfold nxt; dsimp only; rw [if_pos c]; dsimp only; exact c.2.1
  · unfold nxt; dsimp only; rw [if_neg c]; dsimp only; omega

theorem dec_no {s : ByteArray} {i : Nat} (h : (dec3 s i).2.2 = false) : (Utf8.decode s i).1 = 65533 ∧ (Utf8.decode s i).2 = 1 := by
  simpa [dec3] using h

end Go.Proofs.YtmpajkfbiocmiaaDoor
namespace Go.Proofs.YtmpajkfbiocmiaaDoor
open Go.RowKit

def promY (C : Nat) (s : ByteArray) : Nat → Nat → List Cl → List Cl
  | 0, _, L => L
  | f + 1, pos, L => if pos < s.size then promY C s f (pos + (Utf8.decode s pos).2) (if ((Utf8.decode s pos).1 : Int) = 10 then L else runeY C L ((Utf8.decode s pos).1 : Int) noSt) else L
theorem promY_len (C : Nat) (s : ByteArray) : ∀ f pos L, (promY C s f pos L).length ≤ L.length + 8 * f
  | 0, _, L => by simp [promY]
  | f + 1, pos, L => by
    unfold promY
    split
    · refine Nat.le_trans (promY_len C s f _ _) ?_
      split
      · omega
      · have := runeY_len C L ((Utf8.decode s pos).1 : Int) noSt
        omega
    · omega
theorem promY_end {C : Nat} {s : ByteArray} {pos : Nat} (h : s.size ≤ pos) : ∀ f L, promY C s f pos L = L
  | 0, _ => rfl
  | f + 1, L => by unfold promY; rw [if_neg (by omega)]
theorem iter_keep {p b : Nat} {W V : World} {s : ByteArray} {pos : Nat} (h : KeepC p W V) (hb : b ≠ p) (hi : W.heap[b]? = some (.stringIter s pos)) : V.heap[b]? = some (.stringIter s pos) :=
  (h.block b (Array.getElem?_eq_some_iff.1 hi).1 hb (fun _ hc => by obtain ⟨c, fz, hc⟩ := hc; rw [hi] at hc; cases hc)).trans hi
theorem sh_iter {W : World} {p C b : Nat} {L : List Cl} {s0 : ByteArray} {q : Nat} (h : Sh W p C L) (hb : b ≠ p) (hi : W.heap[b]? = some (.stringIter s0 q)) (s : ByteArray) (pos : Nat) : Sh (W.iterAt b s pos) p C L := by
  obtain ⟨v, h1, h2⟩ := h
  refine ⟨v, (Lib.iterAt_other _ _ _ _ _ (Ne.symm hb)).trans h1, h2.1, ?_⟩
  rcases h2.2 with h0 | ⟨g, cap, cur, rfl, hg, hh, q⟩
  · exact .inl h0
  · refine .inr ⟨g, cap, cur, rfl, hg, (Lib.iterAt_other _ _ _ _ _ ?_).trans hh, q⟩
    rintro rfl
    rw [hi] at hh
    cases hh
theorem keep_iter {p b : Nat} {A W : World} (h : KeepC p A W) (hb : A.heap.size ≤ b) (s : ByteArray) (pos : Nat) : KeepC p A (W.iterAt b s pos) :=
  ⟨h.os, h.tape, h.output, by rw [Lib.iterAt_size]; exact h.size, fun i hi hne hn => (Lib.iterAt_other _ _ _ _ _ (by omega)).trans (h.block i hi hne hn)⟩
theorem wt_iter {W : World} (h : WTabs W) {b p : Nat} (h1 : 2 < p) (h2 : 3 < p) (hb : p ≤ b) (s : ByteArray) (pos : Nat) : WTabs (W.iterAt b s pos) := by
  have hc : ∀ g o v, g < p → W.cell? ⟨g, o, none⟩ = some v → (W.iterAt b s pos).cell? ⟨g, o, none⟩ = some v := fun g o v hg h => (World.cell?_of_block (Lib.iterAt_other _ _ _ _ _ (by dsimp only; omega))).trans h
  exact ⟨h.1.keep fun o v => hc _ o v h1, h.2.keep fun o v => hc _ o v h2⟩
theorem lb_iter {W : World} (h : LBT W) {b p : Nat} (h1 : 1 < p) (hb : p ≤ b) (s : ByteArray) (pos : Nat) : LBT (W.iterAt b s pos) :=
  fun i u hu => (World.cell?_of_block (Lib.iterAt_other _ _ _ _ _ (by dsimp only; omega))).trans (h i u hu)
set_option maxHeartbeats 2000000 in
set_option maxRecDepth 100000 in
theorem prompt_any (p C : Nat) (L : List Cl) (s : ByteArray) (w : World) (h : Sh w p C L) (hT : WTabs w) (hB : LBT w) (hC : 2 ≤ C) (hC2 : C ≤ 1000) (hs : s.size ≤ 100000) (hL : L.length + 8 * s.size ≤ 9000000) (g0 : 1 < p) (g1 : 2 < p) (g2 : 3 < p) :
    Calls Tryd.prog 19 #[.pointer (some ⟨p, 0, none⟩), .string s] w fun e w' => e = .returned (.tuple #[]) ∧ Sh w' p C (promY C s s.size 0 L) ∧ KeepC p w w' := by
  have hpw := h.lt
  have hb0 : Below w.heap.size w (w.alloc (.stringIter s 0)) := (Below.refl _ _).alloc (Nat.le_refl _) _
  have HS0 := hide (h.of hb0)
  have HK0 := hide (KeepC.of (p := p) hb0)
  have HT0 := hide (hT.below hb0)
  have HB0 := hide (hB.below hb0)
  have HI0 := hide (show (w.alloc (.stringIter s 0)).heap[w.heap.size]? = some (.stringIter s 0) from heap_alloc_new w _)
  clear h hT hB hb0
  go_enter Tryd.func19, Tryd.ntmps19
  go_wp2
  go_loopw [] (fun wr => ∃ (pos f : Nat) (M : List Cl), wr.heap[w.heap.size]? = some (.stringIter s pos) ∧ Hid (promY C s f pos M = promY C s s.size 0 L) ∧ s.size ≤ pos + f ∧ pos ≤ s.size ∧ M.length + 8 * f ≤ 9000000 ∧ Hid (Sh wr p C M) ∧ Hid (WTabs wr) ∧ Hid (LBT wr) ∧ Hid (KeepC p w wr)) (fun wr => s.size - wr.iterPos w.heap.size)
  case atStart => exact ⟨0, s.size, L, HI0.out, rfl, by omega, by omega, by omega, HS0, HT0, HB0, HK0⟩
  case round =>
    clear HS0 HT0 HB0 HK0 HI0
    obtain ⟨pos, f, M, hit, HP, hf, hpos, hM, HS, HT, HB, HK⟩ := hrel
    by_cases hp : pos < s.size
    · have hnx : ∀ ty, (Instr.next (.pointer (some ⟨w.heap.size, 0, none⟩)) true ty).run Tryd.prog wr = _ := fun ty => Lib.run_next_any_at wr w.heap.size s pos ty hit hp
      have hd := dec_in s pos hp
      obtain ⟨f, rfl⟩ : ∃ g, f = g + 1 := ⟨f - 1, by omega⟩
      have HST := hide (show promY C s f (pos + (Utf8.decode s pos).2) (if ((Utf8.decode s pos).1 : Int) = 10 then M else runeY C M ((Utf8.decode s pos).1 : Int) noSt) = promY C s s.size 0 L by rw [← HP.out, promY, if_pos hp])
      have HIT := hide hit
      obtain ⟨wi, hwi⟩ : ∃ wi, wi = wr.iterAt w.heap.size s (pos + (Utf8.decode s pos).2) := ⟨_, rfl⟩
      have hiti : wi.heap[w.heap.size]? = some (.stringIter s (pos + (Utf8.decode s pos).2)) := by rw [hwi]; exact Lib.iterAt_heap _ _ _ _ _ hit
      have hS1 : Sh wi p C M := by rw [hwi]; exact sh_iter HS.out (by omega) hit _ _
      have hT1 : WTabs wi := by rw [hwi]; exact wt_iter HT.out g1 g2 (by omega) _ _
      have hB1 : LBT wi := by rw [hwi]; exact lb_iter HB.out g0 (by omega) _ _
      have hK1 : KeepC p w wi := by rw [hwi]; exact keep_iter HK.out (Nat.le_refl _) _ _
      rw [← hwi] at hnx
      have HI1 := hide hiti
      have HS1 := hide hS1
      have HT1 := hide hT1
      have HB1 := hide hB1
      have HK1 := hide hK1
      obtain ⟨r, n, hrn⟩ : ∃ r n, Utf8.decode s pos = (r, n) := ⟨_, _, rfl⟩
      rw [hrn] at hnx hd HST HI1
      dsimp only at hnx hd HST HI1
      clear hwi hiti hS1 hT1 hB1 hK1 hit HS HT HB HK HP hrn
      by_cases h10 : (r : Int) = 10
      · have q10 : ((r : Int) != 10) = false := by simpa using h10
        rw [if_pos h10] at HST
        clear h10
        go_wp2_with fail
        go_roundw
        case rel => exact ⟨pos + n, f, M, HI1.out, HST, by omega, by omega, by omega, HS1, HT1, HB1, HK1⟩
        case measure => simp only [World.iterPos]; rw [HI1.out, HIT.out]; dsimp only; omega
      · have q10 : ((r : Int) != 10) = true := by simpa using h10
        rw [if_neg h10] at HST
        clear h10
        have hrl := runeY_len C M (r : Int) noSt
        go_wp2_with fail
        refine (rune_any p C M r 0 false false false _ HS1.out HT1.out HB1.out hC hC2 (by omega) g0 g1 g2).mono ?_; rintro e w2 ⟨rfl, hs2, hk2⟩
        have HS2 := hide hs2
        have HK2 := hide (HK1.out.trans hk2)
        have HT2 := hide (HT1.out.keep hk2 g1 g2)
        have HB2 := hide (HB1.out.keep hk2 g0)
        have HI2 := hide (iter_keep hk2 (by omega) HI1.out)
        clear hs2 hk2
        go_wp2_with fail
        go_roundw
        case rel => exact ⟨pos + n, f, _, HI2.out, HST, by omega, by omega, by omega, HS2, HT2, HB2, HK2⟩
        case measure => simp only [World.iterPos]; rw [HI2.out, HIT.out]; dsimp only; omega
    · have hnx : ∀ ty, (Instr.next (.pointer (some ⟨w.heap.size, 0, none⟩)) true ty).run Tryd.prog wr = _ := fun ty => Lib.run_next_end_at wr w.heap.size s pos ty hit hp
      go_wp2
      go_end0
      exact ⟨rfl, by rw [← HP.out, promY_end (by omega)]; exact HS.out, HK.out⟩
end Go.Proofs.YtmpajkfbiocmiaaDoor
namespace Go.Proofs.YtmpajkfbiocmiaaDoor
open Go.RowKit

def styL (s : Sty) : List Value := [.int .i64 s.1, .bool s.2.1, .bool s.2.2.1, .bool s.2.2.2]
/-- The styles that lie in a row. -/
def StsAt (W : World) (A : Option Addr) (Ss : List Sty) : Prop := RowOf W 4 styL A Ss
def styAt (Ss : List Sty) (i : Nat) : Sty := Ss[i]?.getD noSt
theorem StsAt.at {W : World} {A : Option Addr} {Ss : List Sty} (h : StsAt W A Ss) {j : Nat} {x : Sty} (hj : Ss[j]? = some x) :
    ∃ b o, A = some ⟨b, o, none⟩ ∧ b < W.heap.size ∧ W.cell? ⟨b, o + j * 4, none⟩ = some (.int .i64 x.1) ∧ W.cell? ⟨b, o + j * 4 + 1, none⟩ = some (.bool x.2.1) ∧ W.cell? ⟨b, o + j * 4 + 2, none⟩ = some (.bool x.2.2.1) ∧ W.cell? ⟨b, o + j * 4 + 3, none⟩ = some (.bool x.2.2.2) := by
  obtain ⟨b, o, e, hlt, hc⟩ := h j x hj
  exact ⟨b, o, e, hlt, hc 0 _ rfl, hc 1 _ rfl, hc 2 _ rfl, hc 3 _ rfl⟩
set_option maxHeartbeats 1000000 in
set_option maxRecDepth 100000 in
theorem vstyle_any (text : ByteArray) (A : Option Addr) (n cap : Nat) (cur : Int) (pr mo : ByteArray) (Ss : List Sty) (i : Nat) (w : World) (h : StsAt w A Ss) (hn : Ss.length = n) (hc : n ≤ cap) (hc2 : cap ≤ maxLen) (hi : i ≤ 1000000) :
    Calls Tryd.prog 24 #[.agg #[.string text, .slice A n cap, .int .i64 cur, .string pr, .string mo], .int .i64 i] w fun e w' => e = .returned (styA (styAt Ss i)) ∧ Below w.heap.size w w' := by
  unfold maxLen at hc2
  by_cases hlt : i < n
  · obtain ⟨x, hx⟩ : ∃ x, Ss[i]? = some x := ⟨_, List.getElem?_eq_getElem (by omega)⟩
    obtain ⟨b, o, rfl, hb, x0, x1, x2, x3⟩ := h.at hx
    have HX := hide (show styAt Ss i = x by unfold styAt; rw [hx]; rfl)
    obtain ⟨fg, bo, un, iv⟩ := x
    dsimp only at x0 x1 x2 x3
    have hi0 : (0 : Int) ≤ (i : Int) := by omega
    have hi1 : (i : Int) < (n : Int) := by omega
    clear h hx hn
    have HB := hide (((Below.refl w.heap.size w).alloc (Nat.le_refl _) (.cells #[.string text, .slice (some ⟨b, o, none⟩) n cap, .int .i64 cur, .string pr, .string mo] 24)))
    go_enter Tryd.func24, Tryd.ntmps24
    go_wp2
    refine bodyPost_ret (results_cell_row rfl _ _ (w.heap.size + 1) 28 #[.int .i64 fg, .bool bo, .bool un, .bool iv] (0, 0) _ rfl (heap_alloc2_new _ _ _) Tryd.underlying28 rfl (by kernel_rfl)) rfl ⟨by rw [HX.out]; rfl, HB.out.alloc HB.out.size _⟩
  · have HX := hide (show styAt Ss i = noSt by unfold styAt; rw [List.getElem?_eq_none (by omega)]; rfl)
    have hi1 : ¬ (i : Int) < (n : Int) := by omega
    clear h hn
    have HB := hide (((Below.refl w.heap.size w).alloc (Nat.le_refl _) (.cells #[.string text, .slice A n cap, .int .i64 cur, .string pr, .string mo] 24)))
    go_enter Tryd.func24, Tryd.ntmps24
    go_wp2
    refine bodyPost_ret (results_cell_row rfl _ _ (w.heap.size + 1) 28 #[.int .i64 0, .bool false, .bool false, .bool false] (0, 0) _ rfl (heap_alloc2_new _ _ _) Tryd.underlying28 rfl (by kernel_rfl)) rfl ⟨by rw [HX.out]; rfl, HB.out.alloc HB.out.size _⟩
end Go.Proofs.YtmpajkfbiocmiaaDoor
namespace Go.Proofs.YtmpajkfbiocmiaaDoor
open Go.RowKit

/-- The tables of unicode/utf8, in their blocks. -/
def UTabs (w : World) : Prop := Lib.Utf8Tabs 4 5 w
theorem UTabs.below {w W : World} (h : UTabs w) (hb : Below w.heap.size w W) : UTabs W :=
  ⟨fun c hc => (hb.cell (p := ⟨4, c, none⟩) (World.block_lt_of_cell? _ _ (h.1 c hc))).trans (h.1 c hc), fun i hi =>
    ⟨(hb.cell (p := ⟨5, 2 * i, none⟩) (World.block_lt_of_cell? _ _ (h.2 i hi).1)).trans (h.2 i hi).1, (hb.cell (p := ⟨5, 2 * i + 1, none⟩) (World.block_lt_of_cell? _ _ (h.2 i hi).2)).trans (h.2 i hi).2⟩⟩

theorem decGo (s : ByteArray) (i : Nat) (h : i < s.size) : Lib.decodeGo (s.extract i s.size) = Utf8.decode s i := by
  have hz : ¬ (s.extract i s.size).size = 0 := by rw [Lib.tail_size]; omega
  rw [Lib.decodeGo, if_neg hz, Lib.tail_decode, Nat.add_zero]

theorem ret_next {a b c d : Int} {p q : Bool} (h : a = b) (h' : c = d) (h2 : p = q) : Ending.returned (.tuple #[.int .i32 a, .int .i64 c, .bool p]) = .returned (.tuple #[.int .i32 b, .int .i64 d, .bool q]) := by rw [h, h', h2]
/-- Is it a rune? -/
def runeOk (s : ByteArray) (i : Nat) : Bool := !((Utf8.decode s i).1 == 65533 && (Utf8.decode s i).2 == 1)

theorem decode_call (s : ByteArray) (i : Nat) (w : World) (h : i < s.size) (hT : UTabs w) :
    Calls Tryd.prog 31 #[.string (s.extract i s.size)] w fun e w' => ∃ r n : Nat, Hid (Utf8.decode s i = (r, n)) ∧ r ≤ 1114111 ∧ 1 ≤ n ∧ n ≤ 4 ∧ e = .returned (.tuple #[.int .i32 r, .int .i64 n]) ∧ Below w.heap.size w w' := by
  refine (Tryd.utf8_DecodeRuneInString (s.extract i s.size) w hT).mono ?_
  rintro e w' ⟨he, hb⟩
  rw [decGo s i h] at he
  have hn : (Utf8.decode s i).1 ≤ 1114111 ∧ 1 ≤ (Utf8.decode s i).2 ∧ (Utf8.decode s i).2 ≤ 4 := by
    have lb0 := (s.get! (i + 0)).toNat_lt
    refine ⟨?_, (dec_in s i h).1, ?_⟩
    · unfold Utf8.decode
      dsimp only
      repeat' split
      all_goals simp only [Utf8.runeError]
      all_goals (try simp [Utf8.valid] at *)
      all_goals omega
    · unfold Utf8.decode
      dsimp only
      repeat' split
      all_goals simp
  exact ⟨_, _, rfl, hn.1, hn.2.1, hn.2.2, he, hb⟩

theorem ok_one {s : ByteArray} {i r n : Nat} (h : Utf8.decode s i = (r, n)) (hr : r = 65533) (hn : 1 ≤ n) : decide ((1 : Int) < (n : Int)) = runeOk s i := by
  rw [runeOk, h, hr]
  by_cases h1 : n = 1
  · subst h1; rfl
  · rw [decide_eq_true (by omega)]; simp [h1]
theorem ok_two {s : ByteArray} {i r n : Nat} (h : Utf8.decode s i = (r, n)) (hr : ¬ r = 65533) : true = runeOk s i := by
  rw [runeOk, h]
  simp [hr]

set_option maxHeartbeats 400000 in
theorem next_any (s : ByteArray) (i : Nat) (w : World) (hs : s.size ≤ 1048576) (h : i < s.size) (hT : UTabs w) :
    Calls Tryd.prog 20 #[.string s, .int .i64 i] w fun e w' => e = .returned (.tuple #[.int .i32 (Utf8.decode s i).1, .int .i64 (Utf8.decode s i).2, .bool (runeOk s i)]) ∧ Below w.heap.size w w' := by
  have HT := hide hT
  clear hT
  go_enter Tryd.func20, Tryd.ntmps20
  go_wp2_with (go_at_call 31; refine (decode_call s i _ h HT.out).mono ?_; rintro e w1 ⟨r, n, HD, hr, hn1, hn4, rfl, hb1⟩)
  · have h1 : (r : Int) = 65533 := by assumption
    go_ret3
    exact ⟨ret_next (by rw [HD.out]; exact h1.symm) (by rw [HD.out]) (ok_one HD.out (by omega) hn1), hb1⟩
  · have h1 : ¬ (r : Int) = 65533 := by assumption
    go_ret3
    exact ⟨ret_next (by rw [HD.out]) (by rw [HD.out]) (ok_two HD.out (by omega)), hb1⟩
end Go.Proofs.YtmpajkfbiocmiaaDoor
namespace Go.Proofs.YtmpajkfbiocmiaaDoor
open Go.RowKit

/-- Where runes stand, and bytes that are of none, from a place on. -/
def startsFrom (s : ByteArray) : Nat → Nat → List Nat
  | 0, _ => []
  | f + 1, pos => if pos < s.size then pos :: startsFrom s f (pos + (Utf8.decode s pos).2) else []
def starts (s : ByteArray) : List Nat := startsFrom s s.size 0
theorem startsFrom_end {s : ByteArray} {f pos : Nat} (h : ¬ pos < s.size) : startsFrom s f pos = [] := by
  cases f with
  | zero => rfl
  | succ f => simp only [startsFrom]; rw [if_neg h]
theorem startsFrom_go {s : ByteArray} {f pos : Nat} (h : pos < s.size) : startsFrom s (f + 1) pos = pos :: startsFrom s f (pos + (Utf8.decode s pos).2) := by
  simp only [startsFrom]; rw [if_pos h]
theorem starts_step {s : ByteArray} {f pos : Nat} {L T : List Nat} (hp : pos < s.size) (h : L ++ startsFrom s f pos = T) (hf : s.size ≤ pos + f) : L ++ [pos] ++ startsFrom s (f - 1) (pos + (Utf8.decode s pos).2) = T := by
  obtain ⟨f, rfl⟩ : ∃ g, f = g + 1 := ⟨f - 1, by omega⟩
  rw [startsFrom_go hp] at h
  simpa using h
theorem starts_lt (s : ByteArray) : ∀ f pos, ∀ k ∈ startsFrom s f pos, pos ≤ k ∧ k < s.size
  | 0, _, k, h => by simp [startsFrom] at h
  | f + 1, pos, k, h => by
    simp only [startsFrom] at h
    split at h
    · rename_i hp
      rcases List.mem_cons.1 h with rfl | h
      · exact ⟨Nat.le_refl _, hp⟩
      · have := starts_lt s f _ k h; omega
    · cases h
theorem startsFrom_len (s : ByteArray) : ∀ f pos, (startsFrom s f pos).length ≤ f
  | 0, _ => by simp [startsFrom]
  | f + 1, pos => by
    simp only [startsFrom]
    split
    · have := startsFrom_len s f (pos + (Utf8.decode s pos).2); simp only [List.length_cons]; omega
    · simp
theorem starts_len (s : ByteArray) : (starts s).length ≤ s.size := startsFrom_len s _ _

/-- A list of places as cells. -/
def nats (L : List Nat) : List Value := L.map fun (k : Nat) => Value.int .i64 (k : Int)
theorem nats_snoc (L : List Nat) (k : Nat) : nats (L ++ [k]) = nats L ++ [.int .i64 (k : Int)] := by simp [nats]
theorem info_int : (Tryd.prog.info? 3).map (fun i => (i.zero, i.size, i.bytes)) = some (some (.int .i64 0), 1, 8) := by kernel_rfl
theorem own_form {w : World} {B : Nat} {e : TypeId} {k : Nat} {v : Value} {n : Nat} {xs : List Value} (h : w.ownsRow B e k v n xs) : ∃ A c, v = .slice A n c := by
  rcases h.2 with ⟨rfl, rfl⟩ | ⟨g, cap, cur, rfl, _⟩
  · exact ⟨_, _, rfl⟩
  · exact ⟨_, _, rfl⟩
theorem own_below {w W : World} {B : Nat} {e : TypeId} {k : Nat} {v : Value} {n : Nat} {xs : List Value} (h : w.ownsRow B e k v n xs) (hb : Below w.heap.size w W) : W.ownsRow B e k v n xs := by
  refine ⟨h.1, ?_⟩
  rcases h.2 with h0 | ⟨g, cap, cur, rfl, hg, hh, h1, h2, h3, h4⟩
  · exact .inl h0
  · exact .inr ⟨g, cap, cur, rfl, hg, (hb.block g (Array.getElem?_eq_some_iff.1 hh).1).trans hh, h1, h2, h3, h4⟩

/-- What Starts leaves. -/
def StartsPost (s : ByteArray) (w : World) (e : Ending) (w' : World) : Prop :=
  ∃ A c, e = .returned (.slice A (starts s).length c) ∧ w'.ownsRow w.heap.size 3 1 (.slice A (starts s).length c) (starts s).length (nats (starts s)) ∧ Below w.heap.size w w'

theorem starts_end {s : ByteArray} {w wr : World} {v : Value} {L : List Nat} {f pos : Nat} (hp : ¬ pos < s.size) (h : L ++ startsFrom s f pos = starts s) (hown : wr.ownsRow w.heap.size 3 1 v L.length (nats L)) (hB : Below w.heap.size w wr) : StartsPost s w (.returned v) wr := by
  rw [startsFrom_end hp, List.append_nil] at h
  subst h
  obtain ⟨A, c, rfl⟩ := own_form hown
  exact ⟨A, c, rfl, hown, hB⟩

theorem starts_rel {w wr w1 w2 : World} {v v' : Value} {L : List Nat} {pos : Nat} {o : Obj} {t : TypeId} (hB : Below w.heap.size w wr) (hbs : w.heap.size ≤ wr.heap.size) (hown : wr.ownsRow w.heap.size t 1 v L.length (nats L))
    (hown1 : w1.ownsRow w.heap.size t 1 v' (L.length + 1) (nats L ++ [.int .i64 (pos : Int)])) (hgrow : (wr.alloc o).grownBy w1 v.ownBlock) (hb2 : Below w1.heap.size w1 w2) :
    w2.ownsRow w.heap.size t 1 v' (L ++ [pos]).length (nats (L ++ [pos])) ∧ Below w.heap.size w w2 := by
  have h1 : Below w.heap.size w w1 := (hB.alloc hbs o).grown hgrow (by simp; omega) (fun k e => (hown.lt k e).1)
  exact ⟨by rw [nats_snoc, List.length_append]; exact own_below hown1 hb2, h1.trans (hb2.mono h1.size)⟩

/-- The slice at A reads as the places L. -/
def NatsAt (A : Option Addr) (L : List Nat) (w : World) : Prop := ∀ k, k < L.length → ∃ g, A = some ⟨g, 0, none⟩ ∧ w.cell? ⟨g, k, none⟩ = some (.int .i64 ((L[k]?.getD 0 : Nat) : Int))
theorem NatsAt.below {A : Option Addr} {L : List Nat} {w W : World} (h : NatsAt A L w) (hb : Below w.heap.size w W) : NatsAt A L W := fun k hk => by
  obtain ⟨g, e, hc⟩ := h k hk
  exact ⟨g, e, (hb.cell (p := ⟨g, k, none⟩) (World.block_lt_of_cell? _ _ hc)).trans hc⟩
theorem NatsAt.of_own {A : Option Addr} {c : Nat} {L : List Nat} {w : World} {B : Nat} {t : TypeId} (h : w.ownsRow B t 1 (.slice A L.length c) L.length (nats L)) : NatsAt A L w := fun k hk => by
  rcases h.2 with ⟨_, h0⟩ | ⟨g, cap, cur, e, _⟩
  · omega
  · injection e with e1 e2 e3
    subst e1
    refine ⟨g, rfl, ?_⟩
    rw [h.cellAt k (by omega)]
    simp [nats, hk]
end Go.Proofs.YtmpajkfbiocmiaaDoor
namespace Go.Proofs.YtmpajkfbiocmiaaDoor

theorem dec_1 {s : ByteArray} {i r : Nat} (h0 : (s.get! i).toNat = r) (hr : r < 128) : Utf8.decode s i = (r, 1) := by
  unfold Utf8.decode; simp only [Nat.add_zero]; rw [if_pos (by omega), h0]
theorem dec_2 {s : ByteArray} {i r : Nat} (h0 : (s.get! i).toNat = 192 + r / 64) (h1 : (s.get! (i + 1)).toNat = 128 + r % 64) (hi : i + 2 ≤ s.size) (hr : 128 ≤ r) (hr2 : r < 2048) : Utf8.decode s i = (r, 2) := by
  have e : (s.get! i).toNat % 32 * 64 + (s.get! (i + 1)).toNat % 64 = r := by omega
  unfold Utf8.decode; simp only [Nat.add_zero]
  rw [if_neg (by omega), if_pos (by simp; omega)]
  simp only [e]
  rw [if_pos (by omega)]
theorem dec_3 {s : ByteArray} {i r : Nat} (h0 : (s.get! i).toNat = 224 + r / 4096) (h1 : (s.get! (i + 1)).toNat = 128 + r / 64 % 64) (h2 : (s.get! (i + 2)).toNat = 128 + r % 64) (hi : i + 3 ≤ s.size) (hr : 2048 ≤ r) (hr2 : r < 65536) (hv : r < 55296 ∨ 57344 ≤ r) : Utf8.decode s i = (r, 3) := by
  have e : (s.get! i).toNat % 16 * 4096 + (s.get! (i + 1)).toNat % 64 * 64 + (s.get! (i + 2)).toNat % 64 = r := by omega
  unfold Utf8.decode; simp only [Nat.add_zero]
  rw [if_neg (by omega), if_neg (by simp; omega), if_pos (by simp; omega)]
  simp only [e]
  rw [if_pos (by rw [Bool.and_eq_true, valid_of (by omega)]; simp; omega)]
theorem dec_4 {s : ByteArray} {i r : Nat} (h0 : (s.get! i).toNat = 240 + r / 262144) (h1 : (s.get! (i + 1)).toNat = 128 + r / 4096 % 64) (h2 : (s.get! (i + 2)).toNat = 128 + r / 64 % 64) (h3 : (s.get! (i + 3)).toNat = 128 + r % 64) (hi : i + 4 ≤ s.size) (hr : 65536 ≤ r) (hr2 : r ≤ 1114111) : Utf8.decode s i = (r, 4) := by
  have e : (s.get! i).toNat % 8 * 262144 + (s.get! (i + 1)).toNat % 64 * 4096 + (s.get! (i + 2)).toNat % 64 * 64 + (s.get! (i + 3)).toNat % 64 = r := by omega
  unfold Utf8.decode; simp only [Nat.add_zero]
  rw [if_neg (by omega), if_neg (by simp; omega), if_neg (by simp; omega), if_pos (by simp; omega)]
  simp only [e]
  rw [if_pos (by rw [Bool.and_eq_true, valid_of (by omega)]; simp; omega)]

theorem get_list {s : ByteArray} {i k : Nat} {l : List UInt8} (h : s.extract i (i + l.length) = ⟨l.toArray⟩) (hs : i + l.length ≤ s.size) (hk : k < l.length) : s.get! (i + k) = l[k] := by
  rw [ext_get s i l.length hs, list_eq] at h
  have := congrArg (fun m => m[k]?) h
  simp [hk] at this
  exact this
theorem ofNat_toNat {n : Nat} (h : n < 256) : (UInt8.ofNat n).toNat = n := by simp; omega

/-- A rune is read as it was put, whatever stands around it. -/
theorem decode_put {s : ByteArray} {i : Nat} {r : Int} (hv : (0 ≤ r ∧ r < 55296) ∨ (57344 ≤ r ∧ r ≤ 1114111)) (h : s.extract i (i + (putS r).size) = putS r) (hs : i + (putS r).size ≤ s.size) : Utf8.decode s i = (r.toNat, (putS r).size) ∧ 1 ≤ (putS r).size ∧ (putS r).size ≤ 4 := by
  rcases put_cases r with ⟨e, b⟩ | ⟨e, b⟩ | ⟨e, b⟩ | ⟨e, b⟩ | ⟨e, b⟩
  · omega
  · have z : (putS r).size = 1 := by rw [e]; rfl
    rw [z] at hs h ⊢
    rw [e] at h
    have g0 := get_list (l := [UInt8.ofNat r.toNat]) h hs (k := 0) (by simp)
    exact ⟨dec_1 (by simpa using (congrArg UInt8.toNat g0).trans (ofNat_toNat (by omega))) (by omega), by omega, by omega⟩
  · have z : (putS r).size = 2 := by rw [e]; rfl
    rw [z] at hs h ⊢
    rw [e] at h
    have g0 := get_list (l := [UInt8.ofNat (192 + r / 64).toNat, UInt8.ofNat (128 + r % 64).toNat]) h hs (k := 0) (by simp)
    have g1 := get_list (l := [UInt8.ofNat (192 + r / 64).toNat, UInt8.ofNat (128 + r % 64).toNat]) h hs (k := 1) (by simp)
    have t0 := (congrArg UInt8.toNat g0).trans (ofNat_toNat (by omega))
    have t1 := (congrArg UInt8.toNat g1).trans (ofNat_toNat (by omega))
    rw [Nat.add_zero] at t0
    exact ⟨dec_2 (r := r.toNat) (by omega) (by omega) hs (by omega) (by omega), by omega, by omega⟩
  · have z : (putS r).size = 3 := by rw [e]; rfl
    rw [z] at hs h ⊢
    rw [e] at h
    have g0 := get_list (l := [UInt8.ofNat (224 + r / 4096).toNat, UInt8.ofNat (128 + r / 64 % 64).toNat, UInt8.ofNat (128 + r % 64).toNat]) h hs (k := 0) (by simp)
    have g1 := get_list (l := [UInt8.ofNat (224 + r / 4096).toNat, UInt8.ofNat (128 + r / 64 % 64).toNat, UInt8.ofNat (128 + r % 64).toNat]) h hs (k := 1) (by simp)
    have g2 := get_list (l := [UInt8.ofNat (224 + r / 4096).toNat, UInt8.ofNat (128 + r / 64 % 64).toNat, UInt8.ofNat (128 + r % 64).toNat]) h hs (k := 2) (by simp)
    have t0 := (congrArg UInt8.toNat g0).trans (ofNat_toNat (by omega))
    have t1 := (congrArg UInt8.toNat g1).trans (ofNat_toNat (by omega))
    have t2 := (congrArg UInt8.toNat g2).trans (ofNat_toNat (by omega))
    rw [Nat.add_zero] at t0
    exact ⟨dec_3 (r := r.toNat) (by omega) (by omega) (by omega) hs (by omega) (by omega) (by omega), by omega, by omega⟩
  · have z : (putS r).size = 4 := by rw [e]; rfl
    rw [z] at hs h ⊢
    rw [e] at h
    have g0 := get_list (l := [UInt8.ofNat (240 + r / 262144).toNat, UInt8.ofNat (128 + r / 4096 % 64).toNat, UInt8.ofNat (128 + r / 64 % 64).toNat, UInt8.ofNat (128 + r % 64).toNat]) h hs (k := 0) (by simp)
    have g1 := get_list (l := [UInt8.ofNat (240 + r / 262144).toNat, UInt8.ofNat (128 + r / 4096 % 64).toNat, UInt8.ofNat (128 + r / 64 % 64).toNat, UInt8.ofNat (128 + r % 64).toNat]) h hs (k := 1) (by simp)
    have g2 := get_list (l := [UInt8.ofNat (240 + r / 262144).toNat, UInt8.ofNat (128 + r / 4096 % 64).toNat, UInt8.ofNat (128 + r / 64 % 64).toNat, UInt8.ofNat (128 + r % 64).toNat]) h hs (k := 2) (by simp)
    have g3 := get_list (l := [UInt8.ofNat (240 + r / 262144).toNat, UInt8.ofNat (128 + r / 4096 % 64).toNat, UInt8.ofNat (128 + r / 64 % 64).toNat, UInt8.ofNat (128 + r % 64).toNat]) h hs (k := 3) (by simp)
    have t0 := (congrArg UInt8.toNat g0).trans (ofNat_toNat (by omega))
    have t1 := (congrArg UInt8.toNat g1).trans (ofNat_toNat (by omega))
    have t2 := (congrArg UInt8.toNat g2).trans (ofNat_toNat (by omega))
    have t3 := (congrArg UInt8.toNat g3).trans (ofNat_toNat (by omega))
    rw [Nat.add_zero] at t0
    exact ⟨dec_4 (r := r.toNat) (by omega) (by omega) (by omega) (by omega) hs (by omega) (by omega), by omega, by omega⟩
theorem extract_whole (s : ByteArray) : s.extract 0 (0 + s.size) = s := by
  rw [Nat.zero_add, Lib.extract_eq]; cases s with | mk d => cases d with | mk l => simp [ByteArray.size]
theorem decode_alone {r : Int} (hv : (0 ≤ r ∧ r < 55296) ∨ (57344 ≤ r ∧ r ≤ 1114111)) : Utf8.decode (putS r) 0 = (r.toNat, (putS r).size) ∧ 1 ≤ (putS r).size ∧ (putS r).size ≤ 4 :=
  decode_put hv (extract_whole _) (by omega)
end Go.Proofs.YtmpajkfbiocmiaaDoor
