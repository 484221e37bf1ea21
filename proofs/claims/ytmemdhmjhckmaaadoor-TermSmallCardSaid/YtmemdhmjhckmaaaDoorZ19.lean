/- Terminal: control characters. Terminal: control sequences. Terminal: control sequences. Terminal: control sequences. Terminal: control sequences. Terminal: control sequences. -/
import Derived.Test.YtmemdhmjhckmaaaDoorZ18
import Derived.Deep.RegionHeld3
namespace Go.Proofs.YtmemdhmjhckmaaaDoor
open Go.RowKit
set_option maxRecDepth 100000

set_option maxHeartbeats 4000000 in
theorem tctl_any {w0 W : World} {z g cap : Nat} (t : Tm) (h : TmB w0 W z g cap t) (hT : Tabs w0) (hI : Inv t) (hb : t.bells ≤ 1000000) (r : Int) :
    Calls Tryd.prog 54 #[.pointer (some ⟨z, 0, none⟩), .int .i32 r] W (Mv w0 W z g cap (ctlM t r)) := by
  have hn : t.cs.length ≤ 20000 := by rw [hI.hL]; exact Nat.le_trans (Nat.mul_le_mul hI.hR.2 hI.hC.2) (by decide)
  have hCn : t.cols < t.cs.length := by
    rw [hI.hL]
    have := hI.hC
    calc t.cols < 2 * t.cols := by omega
      _ ≤ t.rows * t.cols := Nat.mul_le_mul_right _ hI.hR.1
  have hR := hI.hR
  have hC := hI.hC
  have hrow := hI.hrow
  have hcol := hI.hcol
  have HF := hide (tfeed_any t h hT hn hCn (by omega) (by omega) (by omega))
  obtain ⟨R, C, cs, row, col, ⟨a, tx⟩, s, wt, bl⟩ := t
  dsimp only at hn hCn hR hC hrow hcol hb
  obtain ⟨-, -, -, -, -, c5, -, -, -, -, -, -, c12, c13⟩ := h.reads
  have bf := fun i => h.b.frozen i
  have H := hide h
  clear h hI hn hCn
  by_cases r7 : r = 7
  · subst r7
    have hw : IntKind.i64.wrap ((bl : Int) + 1) = ((bl + 1 : Nat) : Int) := (Go.wrap_small _ (by omega) (by omega)).trans (by omega)
    go_enter Tryd.func54, Tryd.ntmps54
    go_wp2
    go_end0
    exact Mv.mk (H.out.setZ ⟨R, C, cs, row, col, (a, tx), s, wt, (bl + 1)⟩ 13 (.int .i64 ((bl + 1 : Nat) : Int)) rfl rfl) (K2.set _ _ _ _ _)
  have e7 : (r == 7) = false := beq_eq_false_iff_ne.2 r7
  by_cases r13 : r = 13
  · subst r13
    go_enter Tryd.func54, Tryd.ntmps54
    go_wp2
    go_end0
    exact Mv.mk ((H.out.setZ ⟨R, C, cs, row, 0, (a, tx), s, wt, bl⟩ 5 (.int .i64 ((0 : Nat) : Int)) rfl rfl).setZ ⟨R, C, cs, row, 0, (a, tx), s, false, bl⟩ 12 (.bool false) rfl rfl) ((K2.set _ _ _ _ _).trans (K2.set _ _ _ _ _))
  have e13 : (r == 13) = false := beq_eq_false_iff_ne.2 r13
  by_cases r8 : r = 8
  · subst r8
    have hm : max ((col : Int) - 1) 0 = ((col - 1 : Nat) : Int) := by omega
    go_enter Tryd.func54, Tryd.ntmps54
    go_wp2
    go_end0
    exact Mv.mk ((H.out.setZ ⟨R, C, cs, row, (col - 1), (a, tx), s, wt, bl⟩ 5 (.int .i64 ((col - 1 : Nat) : Int)) rfl rfl).setZ ⟨R, C, cs, row, (col - 1), (a, tx), s, false, bl⟩ 12 (.bool false) rfl rfl) ((K2.set _ _ _ _ _).trans (K2.set _ _ _ _ _))
  have e8 : (r == 8) = false := beq_eq_false_iff_ne.2 r8
  by_cases r10 : r = 10
  · subst r10
    obtain ⟨cs1, row1, hf⟩ := wrap_form R C cs row col (a, tx) s wt bl
    have HE := hide (show ctlM ⟨R, C, cs, row, col, (a, tx), s, wt, bl⟩ 10 = ⟨R, C, cs1, row1, col, (a, tx), s, false, bl⟩ by show ({ feedM ⟨R, C, cs, row, col, (a, tx), s, wt, bl⟩ with waits := false } : Tm) = _; rw [hf])
    rw [hf] at HF
    clear hf
    go_enter Tryd.func54, Tryd.ntmps54
    go_wp2_with fail
    refine HF.out.mono ?_; rintro e w1 ⟨rfl, H1, K1⟩
    obtain ⟨-, -, -, -, -, -, -, -, -, -, -, -, d12, -⟩ := H1.reads
    have df := fun i => H1.b.frozen i
    have H1 := hide H1
    clear c5 c12 c13 bf
    go_wp2
    go_end0
    rw [HE.out]
    exact Mv.mk (H1.out.setZ ⟨R, C, cs1, row1, col, (a, tx), s, false, bl⟩ 12 (.bool false) rfl rfl) (K1.trans (K2.set _ _ _ _ _))
  have e10 : (r == 10) = false := beq_eq_false_iff_ne.2 r10
  have HE := hide (show ctlM ⟨R, C, cs, row, col, (a, tx), s, wt, bl⟩ r = ⟨R, C, cs, row, col, (a, tx), s, wt, bl⟩ by unfold ctlM; rw [if_neg r7, if_neg r13, if_neg r8, if_neg r10])
  go_enter Tryd.func54, Tryd.ntmps54
  go_wp2
  go_end0
  rw [HE.out]
  exact Mv.mk H.out (K2.refl _ _ _)
end Go.Proofs.YtmemdhmjhckmaaaDoor
namespace Go.Proofs.YtmemdhmjhckmaaaDoor
open Go.RowKit
set_option maxRecDepth 100000

/-- One operation of a region that draws its order is taken first. -/
theorem wpAnyH_at {P : Program} {md : Region.Mode} {ops : Array Oper} {Q : Exit → Act → World → Prop} {S : World → Prop} {i : Nat} {oi : Oper} {v : Value} {d : Tmp} {fuel : Nat} {listed : Array Bool} {a : Act} {w : World} (hi : ops[i]? = some oi) (hd : oi.dst = some d)
    (hs : Region.noSelect ops = true) (hf : Region.free md ops listed i = true) (hr : (Region.ready md ops listed).contains i = true)
    (hQ : ∀ c a w, Q (.panic c) (a.put (some d) v) w → Q (.panic c) a w) (hy : YieldsIf P ops S oi v a) (hS : S w)
    (h : wpAnyH P md ops Q S fuel (listed.setIfInBounds i true) (a.put (some d) v) w) : wpAnyH P md ops Q S (fuel + 1) listed a w :=
  wpAnyH_take hi hs hf hr (by rw [hd]; exact hQ) hy hS (by rw [hd]; exact h)
theorem max_one {n : Int} (h : 0 ≤ n ∧ n ≤ 9999) : 1 ≤ max n 1 ∧ max n 1 ≤ 9999 := by omega
theorem NumsV.form {W : World} {v : Value} {l : List Int} (h : NumsV W v l) : ∃ A c, v = .slice A l.length c := by
  obtain ⟨A, c, e, -⟩ := h
  exact ⟨A, c, e⟩
theorem getD_bd {l : List Int} (h : ∀ x ∈ l, 0 ≤ x ∧ x ≤ 9999) (i : Nat) : 0 ≤ l.getD i 0 ∧ l.getD i 0 ≤ 9999 := by
  rw [List.getD_eq_getElem?_getD]
  cases hx : l[i]? with
  | none => exact ⟨by decide, by decide⟩
  | some x => exact h x (List.mem_of_getElem? hx)
theorem clear_form (R C : Nat) (cs : List Cl) (row col : Nat) (p : Nat × ByteArray) (s : Cl) (wt : Bool) (bl : Nat) (n : Int) (f q : Nat) : ∃ cs1, clearM ⟨R, C, cs, row, col, p, s, wt, bl⟩ n f q = ⟨R, C, cs1, row, col, p, s, wt, bl⟩ := by
  unfold clearM wipeT
  dsimp only
  (repeat' split) <;> exact ⟨_, rfl⟩
theorem blk_ne {W : World} {b d : Nat} {T T' : TypeId} {cs ds : List Value} (h : Blk W b T cs) (h2 : Blk W d T' ds) (hT : T ≠ T') : b ≠ d := by
  rintro rfl
  unfold Blk at h h2
  rw [h] at h2
  injection h2 with h2
  injection h2 with _ e _
  exact hT e
theorem cells17 {w0 V : World} {z g cap y : Nat} {R C : Nat} {cs : List Cl} {row col a : Nat} {tx : ByteArray} {s : Cl} {wt : Bool} {bl : Nat} {k r f : Int} {pv : Value} (h : TmB w0 V z g cap ⟨R, C, cs, row, col, (a, tx), s, wt, bl⟩) (hb : Blk V y 72 [.int .i64 k, .int .i32 r, pv, .int .u8 f]) :
    V.cell? ⟨z, 1, none⟩ = some (.int .i64 (R : Int)) ∧ V.cell? ⟨z, 2, none⟩ = some (.int .i64 (C : Int)) ∧ V.cell? ⟨y, 0, none⟩ = some (.int .i64 k) ∧ V.cell? ⟨y, 1, none⟩ = some (.int .i32 r) ∧ V.cell? ⟨y, 2, none⟩ = some pv ∧ V.cell? ⟨y, 3, none⟩ = some (.int .u8 f) :=
  ⟨h.reads.2.1, h.reads.2.2.1, hb.cell (i := 0) rfl, hb.cell (i := 1) rfl, hb.cell (i := 2) rfl, hb.cell (i := 3) rfl⟩
theorem look_form (R C : Nat) (cs : List Cl) (row col : Nat) (p : Nat × ByteArray) (s : Cl) (wt : Bool) (bl : Nat) (l : List Int) : ∃ s1, lookM ⟨R, C, cs, row, col, p, s, wt, bl⟩ l = ⟨R, C, cs, row, col, p, s1, wt, bl⟩ := ⟨_, rfl⟩
end Go.Proofs.YtmemdhmjhckmaaaDoor
namespace Go.Proofs.YtmemdhmjhckmaaaDoor
open Go.RowKit
set_option maxRecDepth 100000

set_option maxHeartbeats 8000000 in
theorem tseq_f65 {w0 W : World} {z g cap : Nat} (t : Tm) (h : TmB w0 W z g cap t) (hT : Tabs w0) (hR : 2 ≤ t.rows ∧ t.rows ≤ 100) (hC : 8 ≤ t.cols ∧ t.cols ≤ 200) (hL : t.cs.length = t.rows * t.cols) (hrow : t.row < t.rows) (hcol : t.col < t.cols) (hA : allW t.cs) (k r fin : Int) (pv : Value) (l : List Int) (hv : NumsV W pv l) (hl : l.length ≤ 100000) (h9 : ∀ x ∈ l, 0 ≤ x ∧ x ≤ 9999) (hf : fin = 65) :
    Calls Tryd.prog 55 #[.pointer (some ⟨z, 0, none⟩), .agg #[.int .i64 k, .int .i32 r, pv, .int .u8 fin]] W (Mv w0 W z g cap (seqM t l fin)) := by
  obtain ⟨R, C, cs, row, col, ⟨a, tx⟩, s, wt, bl⟩ := t
  obtain ⟨A, c, rfl⟩ := hv.form
  dsimp only at *
  have hsq : seqM ⟨R, C, cs, row, col, (a, tx), s, wt, bl⟩ l fin = ⟨R, C, cs, clipN ((row : Int) - max (l.getD 0 0) 1) R, col, (a, tx), s, false, bl⟩ := by
    subst hf; rfl
  have HSQ := hide hsq
  clear hsq
  subst hf
  have h90 := getD_bd h9 0
  have h91 := getD_bd h9 1
  obtain ⟨nn, hnn⟩ : ∃ x, cs.length = x := ⟨_, rfl⟩
  have HNN := hide hnn
  have hn2 : nn ≤ 20000 := by rw [← hnn, hL]; exact Nat.le_trans (Nat.mul_le_mul hR.2 hC.2) (by decide)
  rw [hnn] at hL
  have HLL := hide hL
  have hbl : Below W.heap.size W (W.alloc (.cells #[.int .i64 k, .int .i32 r, .slice A l.length c, .int .u8 65] 72)) := (Below.refl _ _).alloc (Nat.le_refl _) _
  have HP := hide (fun (W' : World) (hb : Below W.heap.size W W') (i : Nat) (hi : i ≤ 1) => param_any k r 65 (.slice A l.length c) l i W' (hv.below hb) hl hi)
  have HNV := hide hv
  have HAL := hide hA
  have H0 := hide (h.low hbl)
  have HBX0 := hide (Blk.new W 72 [.int .i64 k, .int .i32 r, .slice A l.length c, .int .u8 65])
  have HBL := hide hbl
  obtain ⟨n, hn⟩ : ∃ n, l.getD 0 0 = n := ⟨_, rfl⟩
  obtain ⟨n1, hn1⟩ : ∃ n, l.getD 1 0 = n := ⟨_, rfl⟩
  rw [hn] at h90
  (try rw [hn] at HSQ)
  rw [hn1] at h91
  (try rw [hn1] at HSQ)
  have HP0 := hide (fun (W' : World) (hb : Below W.heap.size W W') => by have := HP.out W' hb 0 (by omega); rw [hn] at this; exact this)
  have HP1 := hide (fun (W' : World) (hb : Below W.heap.size W W') => by have := HP.out W' hb 1 (by omega); rw [hn1] at this; exact this)
  have hmb := max_one h90
  obtain ⟨m, hm⟩ : ∃ m, max n 1 = m := ⟨_, rfl⟩
  rw [hm] at hmb
  (try rw [hm] at HSQ)
  have HMB := hide hmb
  have n1_ := h90.1
  have n2_ := h90.2
  clear h hbl hv hn hn1 HP hmb hA h90 hnn hL
  obtain ⟨len, hlen⟩ : ∃ q, l.length = q := ⟨_, rfl⟩
  rw [hlen] at H0 HBX0 HBL HP0 HP1 HNV hl ⊢
  clear hlen
  obtain ⟨y, hy⟩ : ∃ q, W.heap.size = q := ⟨_, rfl⟩
  rw [show [Value.int .i64 k, .int .i32 r, .slice A len c, .int .u8 65].toArray = #[.int .i64 k, .int .i32 r, .slice A len c, .int .u8 65] from rfl] at HBX0
  obtain ⟨Wa, hWa⟩ : ∃ V, W.alloc (.cells #[.int .i64 k, .int .i32 r, .slice A len c, .int .u8 65] 72) = V := ⟨_, rfl⟩
  rw [hWa] at H0 HBX0 HBL
  rw [hy] at HBX0
  have e0 := HBX0.out.cell (i := 0) rfl
  have e1 := HBX0.out.cell (i := 1) rfl
  have e2 := HBX0.out.cell (i := 2) rfl
  have e3 := HBX0.out.cell (i := 3) rfl
  go_enter Tryd.func55, Tryd.ntmps55
  go_wp2_with fail
  (try rw [hWa])
  (try rw [hy])
  refine (HP0.out _ HBL.out).mono ?_; rintro e w1 ⟨rfl, hb1⟩
  have HB1 := hide (HBL.out.trans (hb1.mono HBL.out.size))
  have H1 := hide (H0.out.low hb1)
  have HBX := hide (HBX0.out.below hb1)
  have HNV1 := hide (HNV.out.below HB1.out)
  have K1 := hide (K2.of (z := z) (g := g) HB1.out)
  clear hb1 H0 HBX0 HBL e0 e1 e2 e3 HP0 HNV hWa
  obtain ⟨-, -, -, c3, -⟩ := H1.out.reads
  rw [HNN.out] at c3
  go_wp2_with fail
  (try rw [hm])
  go_region
  obtain ⟨U, hU, H2, K2'⟩ := named (R := fun V => (TmB w0 V z g cap ⟨R, C, cs, row, col, (a, tx), s, wt, bl⟩ ∧ Blk V y 72 [.int .i64 k, .int .i32 r, .slice A len c, .int .u8 65] ∧ NumsV V (.slice A len c) l ∧ Below W.heap.size W V) ∧ K2 z g W V) ⟨⟨H1.out.low (Below.refl _ _).drew, HBX.out.below (Below.refl _ _).drew, HNV1.out.below (Below.refl _ _).drew, HB1.out.drew⟩, K1.out.trans K2.drew⟩
  rw [hU]
  have HNV := hide H2.2.2.1
  have HBX := hide H2.2.1
  have HB1 := hide H2.2.2.2
  have H := hide H2.1
  have K := hide K2'
  clear hU H2 K2' H1 K1 c3 HNV1
  have e0 := HBX.out.cell (i := 0) rfl
  have e1 := HBX.out.cell (i := 1) rfl
  have e2 := HBX.out.cell (i := 2) rfl
  have e3 := HBX.out.cell (i := 3) rfl
  obtain ⟨-, c1, c2, -, c4, c5, -, -, -, -, -, -, c12, -⟩ := H.out.reads
  have bf := fun i => H.out.b.frozen i
  obtain ⟨m1, m2⟩ := HMB.out
  have HCL := hide (fun (w : World) => clip_any ((row : Int) - m) (R : Int) w (by omega) (by omega))
  obtain ⟨q, hq⟩ : ∃ q, clipN ((row : Int) - m) (R : Int) = q := ⟨_, rfl⟩
  rw [hq] at HCL HSQ
  clear hq
  obtain ⟨vv, hvv⟩ : ∃ v, ((row : Int) - m) = v := ⟨_, rfl⟩
  have hwr : IntKind.i64.wrap ((row : Int) + - m) = vv := by simp only [IntKind.wrap_i64]; omega
  rw [hvv] at HCL
  clear hvv
  go_wp2_with fail
  go_region_with (refine (HCL.out _).mono ?_; rintro e w9 ⟨rfl, rfl⟩)
  all_goals go_wp2
  all_goals go_end0
  all_goals rw [HSQ.out]
  all_goals exact Mv.mk (((H.out.setZ ⟨R, C, cs, q, col, (a, tx), s, wt, bl⟩ 4 (.int .i64 (q : Int)) rfl rfl).setZ ⟨R, C, cs, q, col, (a, tx), s, false, bl⟩ 12 (.bool false) rfl rfl).low (Below.refl _ _).drew) (((K.out.trans (K2.set _ _ _ _ _)).trans (K2.set _ _ _ _ _)).trans K2.drew)
end Go.Proofs.YtmemdhmjhckmaaaDoor
namespace Go.Proofs.YtmemdhmjhckmaaaDoor
open Go.RowKit
set_option maxRecDepth 100000

set_option maxHeartbeats 8000000 in
theorem tseq_f66 {w0 W : World} {z g cap : Nat} (t : Tm) (h : TmB w0 W z g cap t) (hT : Tabs w0) (hR : 2 ≤ t.rows ∧ t.rows ≤ 100) (hC : 8 ≤ t.cols ∧ t.cols ≤ 200) (hL : t.cs.length = t.rows * t.cols) (hrow : t.row < t.rows) (hcol : t.col < t.cols) (hA : allW t.cs) (k r fin : Int) (pv : Value) (l : List Int) (hv : NumsV W pv l) (hl : l.length ≤ 100000) (h9 : ∀ x ∈ l, 0 ≤ x ∧ x ≤ 9999) (hf : fin = 66) :
    Calls Tryd.prog 55 #[.pointer (some ⟨z, 0, none⟩), .agg #[.int .i64 k, .int .i32 r, pv, .int .u8 fin]] W (Mv w0 W z g cap (seqM t l fin)) := by
  obtain ⟨R, C, cs, row, col, ⟨a, tx⟩, s, wt, bl⟩ := t
  obtain ⟨A, c, rfl⟩ := hv.form
  dsimp only at *
  have hsq : seqM ⟨R, C, cs, row, col, (a, tx), s, wt, bl⟩ l fin = ⟨R, C, cs, clipN ((row : Int) + max (l.getD 0 0) 1) R, col, (a, tx), s, false, bl⟩ := by
    subst hf; rfl
  have HSQ := hide hsq
  clear hsq
  subst hf
  have h90 := getD_bd h9 0
  have h91 := getD_bd h9 1
  obtain ⟨nn, hnn⟩ : ∃ x, cs.length = x := ⟨_, rfl⟩
  have HNN := hide hnn
  have hn2 : nn ≤ 20000 := by rw [← hnn, hL]; exact Nat.le_trans (Nat.mul_le_mul hR.2 hC.2) (by decide)
  rw [hnn] at hL
  have HLL := hide hL
  have hbl : Below W.heap.size W (W.alloc (.cells #[.int .i64 k, .int .i32 r, .slice A l.length c, .int .u8 66] 72)) := (Below.refl _ _).alloc (Nat.le_refl _) _
  have HP := hide (fun (W' : World) (hb : Below W.heap.size W W') (i : Nat) (hi : i ≤ 1) => param_any k r 66 (.slice A l.length c) l i W' (hv.below hb) hl hi)
  have HNV := hide hv
  have HAL := hide hA
  have H0 := hide (h.low hbl)
  have HBX0 := hide (Blk.new W 72 [.int .i64 k, .int .i32 r, .slice A l.length c, .int .u8 66])
  have HBL := hide hbl
  obtain ⟨n, hn⟩ : ∃ n, l.getD 0 0 = n := ⟨_, rfl⟩
  obtain ⟨n1, hn1⟩ : ∃ n, l.getD 1 0 = n := ⟨_, rfl⟩
  rw [hn] at h90
  (try rw [hn] at HSQ)
  rw [hn1] at h91
  (try rw [hn1] at HSQ)
  have HP0 := hide (fun (W' : World) (hb : Below W.heap.size W W') => by have := HP.out W' hb 0 (by omega); rw [hn] at this; exact this)
  have HP1 := hide (fun (W' : World) (hb : Below W.heap.size W W') => by have := HP.out W' hb 1 (by omega); rw [hn1] at this; exact this)
  have hmb := max_one h90
  obtain ⟨m, hm⟩ : ∃ m, max n 1 = m := ⟨_, rfl⟩
  rw [hm] at hmb
  (try rw [hm] at HSQ)
  have HMB := hide hmb
  have n1_ := h90.1
  have n2_ := h90.2
  clear h hbl hv hn hn1 HP hmb hA h90 hnn hL
  obtain ⟨len, hlen⟩ : ∃ q, l.length = q := ⟨_, rfl⟩
  rw [hlen] at H0 HBX0 HBL HP0 HP1 HNV hl ⊢
  clear hlen
  obtain ⟨y, hy⟩ : ∃ q, W.heap.size = q := ⟨_, rfl⟩
  rw [show [Value.int .i64 k, .int .i32 r, .slice A len c, .int .u8 66].toArray = #[.int .i64 k, .int .i32 r, .slice A len c, .int .u8 66] from rfl] at HBX0
  obtain ⟨Wa, hWa⟩ : ∃ V, W.alloc (.cells #[.int .i64 k, .int .i32 r, .slice A len c, .int .u8 66] 72) = V := ⟨_, rfl⟩
  rw [hWa] at H0 HBX0 HBL
  rw [hy] at HBX0
  have e0 := HBX0.out.cell (i := 0) rfl
  have e1 := HBX0.out.cell (i := 1) rfl
  have e2 := HBX0.out.cell (i := 2) rfl
  have e3 := HBX0.out.cell (i := 3) rfl
  go_enter Tryd.func55, Tryd.ntmps55
  go_wp2_with fail
  (try rw [hWa])
  (try rw [hy])
  refine (HP0.out _ HBL.out).mono ?_; rintro e w1 ⟨rfl, hb1⟩
  have HB1 := hide (HBL.out.trans (hb1.mono HBL.out.size))
  have H1 := hide (H0.out.low hb1)
  have HBX := hide (HBX0.out.below hb1)
  have HNV1 := hide (HNV.out.below HB1.out)
  have K1 := hide (K2.of (z := z) (g := g) HB1.out)
  clear hb1 H0 HBX0 HBL e0 e1 e2 e3 HP0 HNV hWa
  obtain ⟨-, -, -, c3, -⟩ := H1.out.reads
  rw [HNN.out] at c3
  go_wp2_with fail
  (try rw [hm])
  go_region
  obtain ⟨U, hU, H2, K2'⟩ := named (R := fun V => (TmB w0 V z g cap ⟨R, C, cs, row, col, (a, tx), s, wt, bl⟩ ∧ Blk V y 72 [.int .i64 k, .int .i32 r, .slice A len c, .int .u8 66] ∧ NumsV V (.slice A len c) l ∧ Below W.heap.size W V) ∧ K2 z g W V) ⟨⟨H1.out.low (Below.refl _ _).drew, HBX.out.below (Below.refl _ _).drew, HNV1.out.below (Below.refl _ _).drew, HB1.out.drew⟩, K1.out.trans K2.drew⟩
  rw [hU]
  have HNV := hide H2.2.2.1
  have HBX := hide H2.2.1
  have HB1 := hide H2.2.2.2
  have H := hide H2.1
  have K := hide K2'
  clear hU H2 K2' H1 K1 c3 HNV1
  have e0 := HBX.out.cell (i := 0) rfl
  have e1 := HBX.out.cell (i := 1) rfl
  have e2 := HBX.out.cell (i := 2) rfl
  have e3 := HBX.out.cell (i := 3) rfl
  obtain ⟨-, c1, c2, -, c4, c5, -, -, -, -, -, -, c12, -⟩ := H.out.reads
  have bf := fun i => H.out.b.frozen i
  obtain ⟨m1, m2⟩ := HMB.out
  have HCL := hide (fun (w : World) => clip_any ((row : Int) + m) (R : Int) w (by omega) (by omega))
  obtain ⟨q, hq⟩ : ∃ q, clipN ((row : Int) + m) (R : Int) = q := ⟨_, rfl⟩
  rw [hq] at HCL HSQ
  clear hq
  obtain ⟨vv, hvv⟩ : ∃ v, ((row : Int) + m) = v := ⟨_, rfl⟩
  have hwr : IntKind.i64.wrap ((row : Int) + m) = vv := by simp only [IntKind.wrap_i64]; omega
  rw [hvv] at HCL
  clear hvv
  go_wp2_with fail
  go_region_with (refine (HCL.out _).mono ?_; rintro e w9 ⟨rfl, rfl⟩)
  all_goals go_wp2
  all_goals go_end0
  all_goals rw [HSQ.out]
  all_goals exact Mv.mk (((H.out.setZ ⟨R, C, cs, q, col, (a, tx), s, wt, bl⟩ 4 (.int .i64 (q : Int)) rfl rfl).setZ ⟨R, C, cs, q, col, (a, tx), s, false, bl⟩ 12 (.bool false) rfl rfl).low (Below.refl _ _).drew) (((K.out.trans (K2.set _ _ _ _ _)).trans (K2.set _ _ _ _ _)).trans K2.drew)
end Go.Proofs.YtmemdhmjhckmaaaDoor
namespace Go.Proofs.YtmemdhmjhckmaaaDoor
open Go.RowKit
set_option maxRecDepth 100000

set_option maxHeartbeats 8000000 in
theorem tseq_f67 {w0 W : World} {z g cap : Nat} (t : Tm) (h : TmB w0 W z g cap t) (hT : Tabs w0) (hR : 2 ≤ t.rows ∧ t.rows ≤ 100) (hC : 8 ≤ t.cols ∧ t.cols ≤ 200) (hL : t.cs.length = t.rows * t.cols) (hrow : t.row < t.rows) (hcol : t.col < t.cols) (hA : allW t.cs) (k r fin : Int) (pv : Value) (l : List Int) (hv : NumsV W pv l) (hl : l.length ≤ 100000) (h9 : ∀ x ∈ l, 0 ≤ x ∧ x ≤ 9999) (hf : fin = 67) :
    Calls Tryd.prog 55 #[.pointer (some ⟨z, 0, none⟩), .agg #[.int .i64 k, .int .i32 r, pv, .int .u8 fin]] W (Mv w0 W z g cap (seqM t l fin)) := by
  obtain ⟨R, C, cs, row, col, ⟨a, tx⟩, s, wt, bl⟩ := t
  obtain ⟨A, c, rfl⟩ := hv.form
  dsimp only at *
  have hsq : seqM ⟨R, C, cs, row, col, (a, tx), s, wt, bl⟩ l fin = ⟨R, C, cs, row, clipN ((col : Int) + max (l.getD 0 0) 1) C, (a, tx), s, false, bl⟩ := by
    subst hf; rfl
  have HSQ := hide hsq
  clear hsq
  subst hf
  have h90 := getD_bd h9 0
  have h91 := getD_bd h9 1
  obtain ⟨nn, hnn⟩ : ∃ x, cs.length = x := ⟨_, rfl⟩
  have HNN := hide hnn
  have hn2 : nn ≤ 20000 := by rw [← hnn, hL]; exact Nat.le_trans (Nat.mul_le_mul hR.2 hC.2) (by decide)
  rw [hnn] at hL
  have HLL := hide hL
  have hbl : Below W.heap.size W (W.alloc (.cells #[.int .i64 k, .int .i32 r, .slice A l.length c, .int .u8 67] 72)) := (Below.refl _ _).alloc (Nat.le_refl _) _
  have HP := hide (fun (W' : World) (hb : Below W.heap.size W W') (i : Nat) (hi : i ≤ 1) => param_any k r 67 (.slice A l.length c) l i W' (hv.below hb) hl hi)
  have HNV := hide hv
  have HAL := hide hA
  have H0 := hide (h.low hbl)
  have HBX0 := hide (Blk.new W 72 [.int .i64 k, .int .i32 r, .slice A l.length c, .int .u8 67])
  have HBL := hide hbl
  obtain ⟨n, hn⟩ : ∃ n, l.getD 0 0 = n := ⟨_, rfl⟩
  obtain ⟨n1, hn1⟩ : ∃ n, l.getD 1 0 = n := ⟨_, rfl⟩
  rw [hn] at h90
  (try rw [hn] at HSQ)
  rw [hn1] at h91
  (try rw [hn1] at HSQ)
  have HP0 := hide (fun (W' : World) (hb : Below W.heap.size W W') => by have := HP.out W' hb 0 (by omega); rw [hn] at this; exact this)
  have HP1 := hide (fun (W' : World) (hb : Below W.heap.size W W') => by have := HP.out W' hb 1 (by omega); rw [hn1] at this; exact this)
  have hmb := max_one h90
  obtain ⟨m, hm⟩ : ∃ m, max n 1 = m := ⟨_, rfl⟩
  rw [hm] at hmb
  (try rw [hm] at HSQ)
  have HMB := hide hmb
  have n1_ := h90.1
  have n2_ := h90.2
  clear h hbl hv hn hn1 HP hmb hA h90 hnn hL
  obtain ⟨len, hlen⟩ : ∃ q, l.length = q := ⟨_, rfl⟩
  rw [hlen] at H0 HBX0 HBL HP0 HP1 HNV hl ⊢
  clear hlen
  obtain ⟨y, hy⟩ : ∃ q, W.heap.size = q := ⟨_, rfl⟩
  rw [show [Value.int .i64 k, .int .i32 r, .slice A len c, .int .u8 67].toArray = #[.int .i64 k, .int .i32 r, .slice A len c, .int .u8 67] from rfl] at HBX0
  obtain ⟨Wa, hWa⟩ : ∃ V, W.alloc (.cells #[.int .i64 k, .int .i32 r, .slice A len c, .int .u8 67] 72) = V := ⟨_, rfl⟩
  rw [hWa] at H0 HBX0 HBL
  rw [hy] at HBX0
  have e0 := HBX0.out.cell (i := 0) rfl
  have e1 := HBX0.out.cell (i := 1) rfl
  have e2 := HBX0.out.cell (i := 2) rfl
  have e3 := HBX0.out.cell (i := 3) rfl
  go_enter Tryd.func55, Tryd.ntmps55
  go_wp2_with fail
  (try rw [hWa])
  (try rw [hy])
  refine (HP0.out _ HBL.out).mono ?_; rintro e w1 ⟨rfl, hb1⟩
  have HB1 := hide (HBL.out.trans (hb1.mono HBL.out.size))
  have H1 := hide (H0.out.low hb1)
  have HBX := hide (HBX0.out.below hb1)
  have HNV1 := hide (HNV.out.below HB1.out)
  have K1 := hide (K2.of (z := z) (g := g) HB1.out)
  clear hb1 H0 HBX0 HBL e0 e1 e2 e3 HP0 HNV hWa
  obtain ⟨-, -, -, c3, -⟩ := H1.out.reads
  rw [HNN.out] at c3
  go_wp2_with fail
  (try rw [hm])
  go_region
  obtain ⟨U, hU, H2, K2'⟩ := named (R := fun V => (TmB w0 V z g cap ⟨R, C, cs, row, col, (a, tx), s, wt, bl⟩ ∧ Blk V y 72 [.int .i64 k, .int .i32 r, .slice A len c, .int .u8 67] ∧ NumsV V (.slice A len c) l ∧ Below W.heap.size W V) ∧ K2 z g W V) ⟨⟨H1.out.low (Below.refl _ _).drew, HBX.out.below (Below.refl _ _).drew, HNV1.out.below (Below.refl _ _).drew, HB1.out.drew⟩, K1.out.trans K2.drew⟩
  rw [hU]
  have HNV := hide H2.2.2.1
  have HBX := hide H2.2.1
  have HB1 := hide H2.2.2.2
  have H := hide H2.1
  have K := hide K2'
  clear hU H2 K2' H1 K1 c3 HNV1
  have e0 := HBX.out.cell (i := 0) rfl
  have e1 := HBX.out.cell (i := 1) rfl
  have e2 := HBX.out.cell (i := 2) rfl
  have e3 := HBX.out.cell (i := 3) rfl
  obtain ⟨-, c1, c2, -, c4, c5, -, -, -, -, -, -, c12, -⟩ := H.out.reads
  have bf := fun i => H.out.b.frozen i
  obtain ⟨m1, m2⟩ := HMB.out
  have HCL := hide (fun (w : World) => clip_any ((col : Int) + m) (C : Int) w (by omega) (by omega))
  obtain ⟨q, hq⟩ : ∃ q, clipN ((col : Int) + m) (C : Int) = q := ⟨_, rfl⟩
  rw [hq] at HCL HSQ
  clear hq
  obtain ⟨vv, hvv⟩ : ∃ v, ((col : Int) + m) = v := ⟨_, rfl⟩
  have hwr : IntKind.i64.wrap ((col : Int) + m) = vv := by simp only [IntKind.wrap_i64]; omega
  rw [hvv] at HCL
  clear hvv
  go_wp2_with fail
  go_region_with (refine (HCL.out _).mono ?_; rintro e w9 ⟨rfl, rfl⟩)
  all_goals go_wp2
  all_goals go_end0
  all_goals rw [HSQ.out]
  all_goals exact Mv.mk (((H.out.setZ ⟨R, C, cs, row, q, (a, tx), s, wt, bl⟩ 5 (.int .i64 (q : Int)) rfl rfl).setZ ⟨R, C, cs, row, q, (a, tx), s, false, bl⟩ 12 (.bool false) rfl rfl).low (Below.refl _ _).drew) (((K.out.trans (K2.set _ _ _ _ _)).trans (K2.set _ _ _ _ _)).trans K2.drew)
end Go.Proofs.YtmemdhmjhckmaaaDoor
namespace Go.Proofs.YtmemdhmjhckmaaaDoor
open Go.RowKit
set_option maxRecDepth 100000

set_option maxHeartbeats 8000000 in
theorem tseq_f68 {w0 W : World} {z g cap : Nat} (t : Tm) (h : TmB w0 W z g cap t) (hT : Tabs w0) (hR : 2 ≤ t.rows ∧ t.rows ≤ 100) (hC : 8 ≤ t.cols ∧ t.cols ≤ 200) (hL : t.cs.length = t.rows * t.cols) (hrow : t.row < t.rows) (hcol : t.col < t.cols) (hA : allW t.cs) (k r fin : Int) (pv : Value) (l : List Int) (hv : NumsV W pv l) (hl : l.length ≤ 100000) (h9 : ∀ x ∈ l, 0 ≤ x ∧ x ≤ 9999) (hf : fin = 68) :
    Calls Tryd.prog 55 #[.pointer (some ⟨z, 0, none⟩), .agg #[.int .i64 k, .int .i32 r, pv, .int .u8 fin]] W (Mv w0 W z g cap (seqM t l fin)) := by
  obtain ⟨R, C, cs, row, col, ⟨a, tx⟩, s, wt, bl⟩ := t
  obtain ⟨A, c, rfl⟩ := hv.form
  dsimp only at *
  have hsq : seqM ⟨R, C, cs, row, col, (a, tx), s, wt, bl⟩ l fin = ⟨R, C, cs, row, clipN ((col : Int) - max (l.getD 0 0) 1) C, (a, tx), s, false, bl⟩ := by
    subst hf; rfl
  have HSQ := hide hsq
  clear hsq
  subst hf
  have h90 := getD_bd h9 0
  have h91 := getD_bd h9 1
  obtain ⟨nn, hnn⟩ : ∃ x, cs.length = x := ⟨_, rfl⟩
  have HNN := hide hnn
  have hn2 : nn ≤ 20000 := by rw [← hnn, hL]; exact Nat.le_trans (Nat.mul_le_mul hR.2 hC.2) (by decide)
  rw [hnn] at hL
  have HLL := hide hL
  have hbl : Below W.heap.size W (W.alloc (.cells #[.int .i64 k, .int .i32 r, .slice A l.length c, .int .u8 68] 72)) := (Below.refl _ _).alloc (Nat.le_refl _) _
  have HP := hide (fun (W' : World) (hb : Below W.heap.size W W') (i : Nat) (hi : i ≤ 1) => param_any k r 68 (.slice A l.length c) l i W' (hv.below hb) hl hi)
  have HNV := hide hv
  have HAL := hide hA
  have H0 := hide (h.low hbl)
  have HBX0 := hide (Blk.new W 72 [.int .i64 k, .int .i32 r, .slice A l.length c, .int .u8 68])
  have HBL := hide hbl
  obtain ⟨n, hn⟩ : ∃ n, l.getD 0 0 = n := ⟨_, rfl⟩
  obtain ⟨n1, hn1⟩ : ∃ n, l.getD 1 0 = n := ⟨_, rfl⟩
  rw [hn] at h90
  (try rw [hn] at HSQ)
  rw [hn1] at h91
  (try rw [hn1] at HSQ)
  have HP0 := hide (fun (W' : World) (hb : Below W.heap.size W W') => by have := HP.out W' hb 0 (by omega); rw [hn] at this; exact this)
  have HP1 := hide (fun (W' : World) (hb : Below W.heap.size W W') => by have := HP.out W' hb 1 (by omega); rw [hn1] at this; exact this)
  have hmb := max_one h90
  obtain ⟨m, hm⟩ : ∃ m, max n 1 = m := ⟨_, rfl⟩
  rw [hm] at hmb
  (try rw [hm] at HSQ)
  have HMB := hide hmb
  have n1_ := h90.1
  have n2_ := h90.2
  clear h hbl hv hn hn1 HP hmb hA h90 hnn hL
  obtain ⟨len, hlen⟩ : ∃ q, l.length = q := ⟨_, rfl⟩
  rw [hlen] at H0 HBX0 HBL HP0 HP1 HNV hl ⊢
  clear hlen
  obtain ⟨y, hy⟩ : ∃ q, W.heap.size = q := ⟨_, rfl⟩
  rw [show [Value.int .i64 k, .int .i32 r, .slice A len c, .int .u8 68].toArray = #[.int .i64 k, .int .i32 r, .slice A len c, .int .u8 68] from rfl] at HBX0
  obtain ⟨Wa, hWa⟩ : ∃ V, W.alloc (.cells #[.int .i64 k, .int .i32 r, .slice A len c, .int .u8 68] 72) = V := ⟨_, rfl⟩
  rw [hWa] at H0 HBX0 HBL
  rw [hy] at HBX0
  have e0 := HBX0.out.cell (i := 0) rfl
  have e1 := HBX0.out.cell (i := 1) rfl
  have e2 := HBX0.out.cell (i := 2) rfl
  have e3 := HBX0.out.cell (i := 3) rfl
  go_enter Tryd.func55, Tryd.ntmps55
  go_wp2_with fail
  (try rw [hWa])
  (try rw [hy])
  refine (HP0.out _ HBL.out).mono ?_; rintro e w1 ⟨rfl, hb1⟩
  have HB1 := hide (HBL.out.trans (hb1.mono HBL.out.size))
  have H1 := hide (H0.out.low hb1)
  have HBX := hide (HBX0.out.below hb1)
  have HNV1 := hide (HNV.out.below HB1.out)
  have K1 := hide (K2.of (z := z) (g := g) HB1.out)
  clear hb1 H0 HBX0 HBL e0 e1 e2 e3 HP0 HNV hWa
  obtain ⟨-, -, -, c3, -⟩ := H1.out.reads
  rw [HNN.out] at c3
  go_wp2_with fail
  (try rw [hm])
  go_region
  obtain ⟨U, hU, H2, K2'⟩ := named (R := fun V => (TmB w0 V z g cap ⟨R, C, cs, row, col, (a, tx), s, wt, bl⟩ ∧ Blk V y 72 [.int .i64 k, .int .i32 r, .slice A len c, .int .u8 68] ∧ NumsV V (.slice A len c) l ∧ Below W.heap.size W V) ∧ K2 z g W V) ⟨⟨H1.out.low (Below.refl _ _).drew, HBX.out.below (Below.refl _ _).drew, HNV1.out.below (Below.refl _ _).drew, HB1.out.drew⟩, K1.out.trans K2.drew⟩
  rw [hU]
  have HNV := hide H2.2.2.1
  have HBX := hide H2.2.1
  have HB1 := hide H2.2.2.2
  have H := hide H2.1
  have K := hide K2'
  clear hU H2 K2' H1 K1 c3 HNV1
  have e0 := HBX.out.cell (i := 0) rfl
  have e1 := HBX.out.cell (i := 1) rfl
  have e2 := HBX.out.cell (i := 2) rfl
  have e3 := HBX.out.cell (i := 3) rfl
  obtain ⟨-, c1, c2, -, c4, c5, -, -, -, -, -, -, c12, -⟩ := H.out.reads
  have bf := fun i => H.out.b.frozen i
  obtain ⟨m1, m2⟩ := HMB.out
  have HCL := hide (fun (w : World) => clip_any ((col : Int) - m) (C : Int) w (by omega) (by omega))
  obtain ⟨q, hq⟩ : ∃ q, clipN ((col : Int) - m) (C : Int) = q := ⟨_, rfl⟩
  rw [hq] at HCL HSQ
  clear hq
  obtain ⟨vv, hvv⟩ : ∃ v, ((col : Int) - m) = v := ⟨_, rfl⟩
  have hwr : IntKind.i64.wrap ((col : Int) + - m) = vv := by simp only [IntKind.wrap_i64]; omega
  rw [hvv] at HCL
  clear hvv
  go_wp2_with fail
  go_region_with (refine (HCL.out _).mono ?_; rintro e w9 ⟨rfl, rfl⟩)
  all_goals go_wp2
  all_goals go_end0
  all_goals rw [HSQ.out]
  all_goals exact Mv.mk (((H.out.setZ ⟨R, C, cs, row, q, (a, tx), s, wt, bl⟩ 5 (.int .i64 (q : Int)) rfl rfl).setZ ⟨R, C, cs, row, q, (a, tx), s, false, bl⟩ 12 (.bool false) rfl rfl).low (Below.refl _ _).drew) (((K.out.trans (K2.set _ _ _ _ _)).trans (K2.set _ _ _ _ _)).trans K2.drew)
end Go.Proofs.YtmemdhmjhckmaaaDoor
