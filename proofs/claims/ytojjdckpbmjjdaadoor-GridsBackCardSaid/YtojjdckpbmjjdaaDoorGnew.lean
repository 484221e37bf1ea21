/- Contracts of grids.New and limnerref06.New. -/
import Derived.Test.YtojjdckpbmjjdaaDoorGfr
import Derived.Test.YtojjdckpbmjjdaaDoorGres
namespace Go.Proofs.YtojjdckpbmjjdaaDoor
open Go.RowKit

theorem results_cell_tmp {P : Program} {fn : Func} {p q : Tmp} {ty : TypeId} (h : fn.results = #[.cell p ty, .tmp q]) (tmps : Array Value) (w : World) (g : Nat) (t : TypeId) (cs : Array Value) (fr : Nat × Nat) (d : TypeDesc) (v : Value)
    (hp : tmps.getD p undef = .pointer (some ⟨g, 0, none⟩)) (hq : tmps.getD q undef = v) (hg : w.heap[g]? = some (.cells cs t fr))
    (hu : P.underlying ty = some d) (hd : (match d with | .struct _ | .array _ _ => true | _ => false) = true) (hi : (P.info? ty).map (·.size) = some cs.size) :
    (results fn tmps).run P w = .ok (.tuple #[.agg cs, v]) w := by
  have hp' : tmps[p]?.getD undef = .pointer (some ⟨g, 0, none⟩) := by simpa using hp
  have hq' : tmps[q]?.getD undef = v := by simpa using hq
  simp [results, h, hp', hq', asAddr, run_loadVar_row w g t ty cs fr d hg hu hd hi]
def zeroC : Cl := ⟨0, 0, 0, false, false, false⟩
theorem made_zero (n : Nat) : (madeCells #[.int .i32 0, .int .i64 0, .int .i64 0, .bool false, .bool false, .bool false] (n * 6)).toList = flatC (List.replicate n zeroC) := by
  apply List.ext_getElem?
  intro j
  by_cases hj : j < n * 6
  · have h6 := flatC_at (List.replicate n zeroC) (j / 6) zeroC (by rw [List.getElem?_replicate, if_pos (by omega)]) (j % 6) (Nat.mod_lt _ (by omega))
    rw [show j / 6 * 6 + j % 6 = j by omega] at h6
    rw [h6]
    have hm : j % 6 < 6 := Nat.mod_lt _ (by omega)
    simp only [madeCells, Array.toList_map, Array.toList_range, List.getElem?_map, List.getElem?_range hj, Option.map_some]
    obtain ⟨m, e⟩ : ∃ m, j % 6 = m := ⟨_, rfl⟩
    rw [show (#[.int .i32 0, .int .i64 0, .int .i64 0, .bool false, .bool false, .bool false] : Array Value).size = 6 from rfl, e]
    rw [e] at hm
    have : m = 0 ∨ m = 1 ∨ m = 2 ∨ m = 3 ∨ m = 4 ∨ m = 5 := by omega
    rcases this with rfl | rfl | rfl | rfl | rfl | rfl <;> rfl
  · rw [List.getElem?_eq_none (by simp [size_madeCells]; omega), List.getElem?_eq_none (by rw [flatC_len]; simp; omega)]
/-- The first i of n cells are blanks. -/
def newTo (n i : Nat) : List Cl := List.replicate i blankC ++ List.replicate (n - i) zeroC
theorem newTo_len {n i : Nat} (h : i ≤ n) : (newTo n i).length = n := by unfold newTo; rw [List.length_append, List.length_replicate, List.length_replicate]; omega
theorem newTo_0 (n : Nat) : newTo n 0 = List.replicate n zeroC := by unfold newTo; simp
theorem newTo_all (n : Nat) : newTo n n = List.replicate n blankC := by unfold newTo; simp
theorem newTo_step {n i : Nat} (h : i < n) : (newTo n i).set i blankC = newTo n (i + 1) := by
  unfold newTo
  obtain ⟨d, hd⟩ : ∃ d, n - i = d + 1 := ⟨n - i - 1, by omega⟩
  rw [hd, show n - (i + 1) = d by omega, List.replicate_succ, List.set_append_right _ _ (by simp), List.length_replicate, Nat.sub_self, List.set_cons_zero, List.replicate_succ', List.append_assoc]
  rfl
theorem OwnC.off {W : World} {B g n c : Nat} {L : List Cl} (h : OwnC W B (.slice (some ⟨g, 0, none⟩) n c) L) {p : Addr} (hp : p.block ≠ g) (x : Value) : OwnC (W.setCell p x) B (.slice (some ⟨g, 0, none⟩) n c) L := by
  refine ⟨h.1, ?_⟩
  rcases h.2 with h0 | ⟨g', cap, cur, e, hg, hh, q⟩
  · exact .inl h0
  · injection e with e e2; injection e with e; injection e with e; subst e
    refine .inr ⟨g, cap, cur, ?_, hg, (Below.heap_setCell _ _ _ _ (fun e => hp e.symm)).trans hh, q⟩
    rw [← e2]
    congr 1
theorem info_z : Value.cells (.agg #[.int .i32 0, .int .i64 0, .int .i64 0, .bool false, .bool false, .bool false]) = #[.int .i32 0, .int .i64 0, .int .i64 0, .bool false, .bool false, .bool false] := by rfl
theorem newF_bad {rows cols : Int} (h : mayB rows cols = false) : newF rows cols = noF ∧ newE rows cols = 2 := by unfold newF newE; rw [h]; exact ⟨rfl, rfl⟩
theorem newF_ok {R C : Nat} (h : mayB R C = true) : newF R C = ⟨R, C, List.replicate (R * C) blankC, 0, 0⟩ ∧ newE R C = 0 := by unfold newF newE; rw [if_pos h, if_pos h]; simp
theorem may_bl (a b : Int) (x : Bool) (hx : mayB a b = x) (w : World) : Calls Tryd.prog 29 #[.int .i64 a, .int .i64 b] w fun e w' => e = .returned (.bool x) ∧ Below w.heap.size w w' :=
  (may_is a b x hx w).mono (by rintro e w' ⟨rfl, rfl⟩; exact ⟨rfl, Below.refl _ _⟩)
theorem rmay_bl (a b : Int) (x : Bool) (hx : mayB a b = x) (w : World) : Calls Tryd.prog 30 #[.int .i64 a, .int .i64 b] w fun e w' => e = .returned (.bool x) ∧ Below w.heap.size w w' :=
  (rmay_is a b x hx w).mono (by rintro e w' ⟨rfl, rfl⟩; exact ⟨rfl, Below.refl _ _⟩)
set_option maxRecDepth 100000 in
set_option maxHeartbeats 2000000 in
theorem new_frame (rows cols : Int) (w : World) (hB : BTab w) :
    Calls Tryd.prog 11 #[.int .i64 rows, .int .i64 cols] w fun e w' => ∃ v', e = .returned (.tuple #[v', .int .i64 (newE rows cols)]) ∧ FrOwn w' w.heap.size v' (newF rows cols) ∧ Below w.heap.size w w' := by
  have hlt := World.block_lt_of_cell? _ _ hB.1
  dsimp only at hlt
  have HBT := hide hB
  clear hB
  have HK := hide (Blk.new w 28 (frCells 0 0 (.slice none 0 0) 0 0))
  have HB0 := hide (show Below w.heap.size w (w.alloc (.cells (frCells 0 0 (.slice none 0 0) 0 0).toArray 28)) from (Below.refl _ _).alloc (Nat.le_refl _) _)
  by_cases hmay : mayB rows cols = true
  case neg =>
    have hm0 : mayB rows cols = false := by simpa using hmay
    have HN := hide (newF_bad hm0)
    have HM := hide hm0
    clear hm0 hmay
    go_enter Tryd.func11, Tryd.ntmps11
    go_wp2_with (first | (go_at_call 29; refine (may_bl _ _ _ HM.out _).mono ?_; rintro e w0 ⟨rfl, hb0⟩; have HK0 := hide (HK.out.below hb0); have HB := hide (HB0.out.trans (hb0.mono HB0.out.size)); obtain ⟨z0, z1, z2, z3, z4, zf⟩ := fr_reads HK0.out; have hz := HK0.out.lt; clear hb0) | fail)
    refine bodyPost_ret (results_cell_tmp rfl _ _ w.heap.size 28 (frCells 0 0 (.slice none 0 0) 0 0).toArray (0, 0) _ (.int .i64 2) rfl rfl (fr_put HK0.out 0 0 (.slice none 0 0) 0 0) Tryd.underlying28 rfl (by kernel_rfl)) rfl ⟨_, by rw [HN.out.2], by rw [HN.out.1]; exact fr_nil _ _, fr_below HB.out (Nat.le_refl _) _ _ _ _ _⟩
  case pos =>
    have HM := hide hmay
    obtain ⟨m1, m2, m3, m4⟩ := may_t.1 hmay
    obtain ⟨R, rfl⟩ : ∃ R : Nat, rows = R := ⟨rows.toNat, by omega⟩
    obtain ⟨C, rfl⟩ : ∃ C : Nat, cols = C := ⟨cols.toNat, by omega⟩
    have HN := hide (newF_ok hmay)
    obtain ⟨hs1, hs2⟩ := size_small (R := R) (C := C) (by omega) (by omega) (by omega) (by omega)
    obtain ⟨n, hn⟩ : ∃ n, R * C = n := ⟨_, rfl⟩
    rw [hn] at hs1 hs2 HN
    have hwr : IntKind.i64.wrap ((R : Int) * (C : Int)) = (n : Int) := by
      rw [show (R : Int) * (C : Int) = (n : Int) by rw [← hn]; push_cast; rfl]
      simp [IntKind.wrap_i64]; omega
    clear hmay hn
    obtain ⟨i0, hi, hz0, hz1, hz2⟩ := info_parts infoC
    go_enter Tryd.func11, Tryd.ntmps11
    go_wp2_with (first
      | (go_at_call 29; refine (may_bl _ _ _ HM.out _).mono ?_; rintro e w0 ⟨rfl, hb0⟩; have HK0 := hide (HK.out.below hb0); have HB := hide (HB0.out.trans (hb0.mono HB0.out.size)); obtain ⟨z0, z1, z2, z3, z4, zf⟩ := fr_reads HK0.out; have hz := HK0.out.lt; clear hb0)
      | (at_make; refine wpList_make_full _ rfl _ _ _ rfl (w.heap.size + 1) 52 i0 _ 6 Tryd.underlying26 hi hz0 hz1 _ _ _ _ n rfl rfl rfl rfl (by rw [hz2]; omega) (by unfold maxLen; omega) (by omega) ?_; intro w1 hown1 hgr; rw [info_z, made_zero, ← newTo_0] at hown1; obtain ⟨g, hg⟩ : ∃ g, w0.heap.size = g := ⟨_, rfl⟩; rw [hg] at hown1 ⊢; have hown := ownC_of (newTo_len (Nat.zero_le n)) (by rw [Nat.zero_add, List.nil_append]; exact hown1); have HB1 := hide (HB.out.grown hgr (by omega) (fun k e => by cases e)); have HK1 := hide (show Blk w1 w.heap.size 28 (frCells 0 0 (.slice none 0 0) 0 0) from (hgr.block _ HK0.out.lt (by simp)).trans HK0.out); have HOW := hide hown; have hgl := hown.inb; clear hown hown1 hgr)
      | fail)
    have HF2 := hide (Blk.new w1 28 (frCells R C (.slice (some ⟨g, 0, none⟩) n n) 0 0))
    have HB2 := hide (HB1.out.alloc HB1.out.size (.cells (frCells R C (.slice (some ⟨g, 0, none⟩) n n) 0 0).toArray 28))
    have HK2 := hide (HK1.out.alloc (.cells (frCells R C (.slice (some ⟨g, 0, none⟩) n n) 0 0).toArray 28))
    have HOW2 := hide (HOW.out.below ((Below.refl _ _).alloc (Nat.le_refl _) (.cells (frCells R C (.slice (some ⟨g, 0, none⟩) n n) 0 0).toArray 28)))
    have HBT2 := hide (HBT.out.below HB2.out)
    have hgw : ¬ g = w1.heap.size := by omega
    have hgw' : ¬ w1.heap.size = g := by omega
    have hgb : ¬ g = 0 := by omega
    have hgb' : ¬ 0 = g := by omega
    have hg0 : ¬ g = w.heap.size := by omega
    have hg0' : ¬ w.heap.size = g := by omega
    have hw10 : ¬ w1.heap.size = w.heap.size := by omega
    clear HB HB0 HB1 HK HK0 HK1 HOW HBT z0 z1 z2 z3 z4 zf
    go_loopw [23] (fun iv wr => ∃ i : Nat, iv = .int .i64 i ∧ i ≤ n ∧ Hid (OwnC wr (w.heap.size + 1) (.slice (some ⟨g, 0, none⟩) n n) (newTo n i)) ∧ Hid (Blk wr w.heap.size 28 (frCells 0 0 (.slice none 0 0) 0 0)) ∧ Hid (Blk wr w1.heap.size 28 (frCells R C (.slice (some ⟨g, 0, none⟩) n n) 0 0)) ∧ Hid (BTab wr) ∧ Hid (Below w.heap.size w wr)) (fun iv _ => n - (intOf iv).toNat)
    case atStart => exact ⟨0, rfl, by omega, HOW2, HK2, HF2, HBT2, HB2⟩
    case round =>
      clear HF2 HB2 HK2 HOW2 HBT2
      obtain ⟨i, rfl, hi, HOW, HK, HF, HBT, HB⟩ := hrel
      obtain ⟨f0, f1, f2, f3, f4, ff⟩ := fr_reads HF.out
      by_cases hlt2 : i < n
      · obtain ⟨t0, t1, t2, t3, t4, t5⟩ := HBT.out
        obtain ⟨X, hX⟩ : ∃ y, (newTo n i)[i]? = some y := ⟨_, List.getElem?_eq_getElem (by rw [newTo_len hi]; exact hlt2)⟩
        obtain ⟨x0, x1, x2, x3, x4, x5⟩ := HOW.out.cls.get hX
        rw [Nat.zero_add] at x0 x1 x2 x3 x4 x5
        have xf := fun i => HOW.out.frozen i
        clear hX
        go_wp2
        have hgr : wr.grownBy _ (some g) := grown6 wr g (i * 6) (i * 6 + 1) (i * 6 + 2) (i * 6 + 3) (i * 6 + 4) (i * 6 + 5) (.int .i32 32) (.int .i64 1) (.int .i64 0) (.bool false) (.bool false) (.bool false)
        go_roundw
        case rel => exact ⟨i + 1, by go_num, by omega, hide (by rw [← newTo_step hlt2]; exact own_set6 HOW.out (newTo_len hi) hlt2 blankC), hide (HK.out.grown hgr hg0'), hide (HF.out.grown hgr hgw'), hide (HBT.out.keep hgr hgb), hide (HB.out.grown hgr HB.out.size (fun k e => by cases e; omega))⟩
        case measure => simp [intOf]; omega
      · obtain rfl : i = n := by omega
        obtain ⟨z0, z1, z2, z3, z4, zf⟩ := fr_reads HK.out
        rw [newTo_all] at HOW
        go_wp2
        refine bodyPost_ret (results_cell_tmp rfl _ _ w.heap.size 28 (frCells R C (.slice (some ⟨g, 0, none⟩) i i) 0 0).toArray (0, 0) _ (.int .i64 0) rfl rfl (fr_put HK.out R C (.slice (some ⟨g, 0, none⟩) i i) 0 0) Tryd.underlying28 rfl (by kernel_rfl)) rfl ⟨_, by rw [HN.out.2], ?_, fr_below HB.out (Nat.le_refl _) _ _ _ _ _⟩
        rw [HN.out.1]
        exact (fr_own (by simp) (by unfold maxLen; omega) (fr_low HOW.out (Nat.lt_succ_self _) _ _ _ _ _)).mono (Nat.le_succ _)
theorem OwnC.formL {W : World} {B n : Nat} {v : Value} {L : List Cl} (h : OwnC W B v L) (hn : L.length = n) : ∃ A c, v = .slice A n c ∧ n ≤ c ∧ c ≤ maxLen := by
  subst hn; exact h.form2
/-- A call of a function of no arguments, as one step of a region that draws its order. -/
theorem step_fn0 {ops : Array Oper} {o : Oper} {a : Act} {W : World} {K : Act → World → Prop} {Q : Exit → Act → World → Prop} {E : Prop}
    (hgd : o.guard = none) (f : Nat) (fn : Func) (hf : Tryd.prog.funcs[f]? = some fn) (hnm : ¬ fn.name = "runtime.NumGoroutine") (hbd : ¬ fn.body = Option.none) (ty : Array TypeId) (hop : o.op = Op.call { callee := Callee.value (.func f), args := #[], argTypes := ty })
    (Post : Value → World → Prop) (hc : Calls Tryd.prog f #[] W fun e w' => ∃ v, e = .returned v ∧ Post v w')
    (hK : ∀ v w', Post v w' → K (a.put o.dst v) w') :
    if Region.wanted o (yielded ops a.tmps) = true then Oper.wp Tryd.prog o a W K Q else E := by
  have hw : Region.wanted o (yielded ops a.tmps) = true := by simp [Region.wanted, hgd]
  rw [if_pos hw]
  unfold Oper.wp
  have he : a.eval (Operand.func f) = Value.func (Fn.func f) #[] #[] := rfl
  simp [execOp, hop, resolve, invoke, he, Result.andThen, Deferred.ofValue, callFunc, hf, hnm, hbd]
  refine hc.mono ?_
  rintro e w' ⟨v, rfl, hp⟩
  exact hK v w' hp
theorem blank_v (w : World) : Calls Tryd.prog 31 #[] w fun e w' => ∃ v, e = .returned v ∧ (v = clV blankC ∧ Below w.heap.size w w') :=
  (blank_any w).mono (by rintro e w' ⟨rfl, h⟩; exact ⟨_, rfl, rfl, h⟩)
/-- One cell is hung on to a slice of the call's own: as one step of a region that draws its order. -/
theorem step_appC {ops : Array Oper} {o : Oper} {a : Act} {W : World} {K : Act → World → Prop} {Q : Exit → Act → World → Prop} {X : Prop} (hgd : o.guard = none) (s x : Operand)
    (hop : o.op = Op.call { callee := Callee.builtin Builtin.append, args := #[s, x], argTypes := #[26, 26] })
    (B : Nat) (hB : B ≤ W.heap.size) (v : Value) (L : List Cl) (c : Cl) (b cp : Nat) (hs : a.eval s = v) (hx : a.eval x = .slice (some ⟨b, 0, none⟩) 1 cp) (hown : OwnC W B v L) (hb : Blk W b 52 (clCells c)) (hlen : L.length ≤ 20000)
    (hK : ∀ v' w', OwnC w' B v' (L ++ [c]) → Below B W w' → K (a.put o.dst v') w') :
    if Region.wanted o (yielded ops a.tmps) = true then Oper.wp Tryd.prog o a W K Q else X := by
  have hw : Region.wanted o (yielded ops a.tmps) = true := by simp [Region.wanted, hgd]
  rw [if_pos hw]
  obtain ⟨i0, hi, hz0, hz1, hz2⟩ := info_parts infoC
  obtain ⟨v', w', hrun, h1, h2, -⟩ := run_append_own (P := Tryd.prog) W B 26 o.type 52 i0 _ 6 32 Tryd.underlying26 hi hz0 hz1 hz2 (by rfl) (by decide) v L.length (flatC L) hown ⟨b, 0, none⟩ 1 cp (clCells c) (by rfl)
    (fun j u hu => by have := hb.cell (i := j) hu; rw [← this]; congr 1; unfold Addr.add; split <;> simp_all) (fun u hu => by simp only [clCells, List.mem_cons, List.not_mem_nil, or_false] at hu; rcases hu with rfl | rfl | rfl | rfl | rfl | rfl <;> rfl) (by unfold maxLen; omega) (by omega) hB
  unfold Oper.wp
  simp [execOp, hop, resolve, invoke, builtin, hs, hx, hrun, Result.andThen]
  refine hK v' w' ?_ ((Below.refl _ _).grown h2 hB (fun k e => (hown.lt k e).1))
  unfold OwnC
  rw [List.length_append, show flatC (L ++ [c]) = flatC L ++ clCells c by simp [flatC]]
  exact h1
set_option maxRecDepth 100000 in
set_option maxHeartbeats 2000000 in
theorem rnew_frame (rows cols : Int) (w : World) :
    Calls Tryd.prog 12 #[.int .i64 rows, .int .i64 cols] w fun e w' => ∃ v', e = .returned (.tuple #[v', .int .i64 (newE rows cols)]) ∧ FrOwn w' w.heap.size v' (newF rows cols) ∧ Below w.heap.size w w' := by
  have HK := hide (Blk.new w 28 (frCells 0 0 (.slice none 0 0) 0 0))
  have HB0 := hide (show Below w.heap.size w (w.alloc (.cells (frCells 0 0 (.slice none 0 0) 0 0).toArray 28)) from (Below.refl _ _).alloc (Nat.le_refl _) _)
  by_cases hmay : mayB rows cols = true
  case neg =>
    have hm0 : mayB rows cols = false := by simpa using hmay
    have HN := hide (newF_bad hm0)
    have HM := hide hm0
    clear hm0 hmay
    go_enter Tryd.func12, Tryd.ntmps12
    go_wp2_with (first | (go_at_call 30; refine (rmay_bl _ _ _ HM.out _).mono ?_; rintro e w0 ⟨rfl, hb0⟩; have HK0 := hide (HK.out.below hb0); have HB := hide (HB0.out.trans (hb0.mono HB0.out.size)); obtain ⟨z0, z1, z2, z3, z4, zf⟩ := fr_reads HK0.out; have hz := HK0.out.lt; clear hb0) | fail)
    refine bodyPost_ret (results_cell_tmp rfl _ _ w.heap.size 28 (frCells 0 0 (.slice none 0 0) 0 0).toArray (0, 0) _ (.int .i64 2) rfl rfl (fr_put HK0.out 0 0 (.slice none 0 0) 0 0) Tryd.underlying28 rfl (by kernel_rfl)) rfl ⟨_, by rw [HN.out.2], by rw [HN.out.1]; exact fr_nil _ _, fr_below HB.out (Nat.le_refl _) _ _ _ _ _⟩
  case pos =>
    have HM := hide hmay
    obtain ⟨m1, m2, m3, m4⟩ := may_t.1 hmay
    obtain ⟨R, rfl⟩ : ∃ R : Nat, rows = R := ⟨rows.toNat, by omega⟩
    obtain ⟨C, rfl⟩ : ∃ C : Nat, cols = C := ⟨cols.toNat, by omega⟩
    have HN := hide (newF_ok hmay)
    obtain ⟨hs1, hs2⟩ := size_small (R := R) (C := C) (by omega) (by omega) (by omega) (by omega)
    obtain ⟨n, hn⟩ : ∃ n, R * C = n := ⟨_, rfl⟩
    rw [hn] at hs1 hs2 HN
    have hwr : IntKind.i64.wrap ((R : Int) * (C : Int)) = (n : Int) := by
      rw [show (R : Int) * (C : Int) = (n : Int) by rw [← hn]; push_cast; rfl]
      simp [IntKind.wrap_i64]; omega
    clear hmay hn
    go_enter Tryd.func12, Tryd.ntmps12
    go_wp2_with (first
      | (go_at_call 30; refine (rmay_bl _ _ _ HM.out _).mono ?_; rintro e w0 ⟨rfl, hb0⟩; have HK0 := hide (HK.out.below hb0); have HB := hide (HB0.out.trans (hb0.mono HB0.out.size)); have hz := HK0.out.lt; clear hb0)
      | fail)
    have HF2 := hide (Blk.new w0 28 (frCells R C (.slice none 0 0) 0 0))
    have HB2 := hide (HB.out.alloc HB.out.size (.cells (frCells R C (.slice none 0 0) 0 0).toArray 28))
    have HK2 := hide (HK0.out.alloc (.cells (frCells R C (.slice none 0 0) 0 0).toArray 28))
    have hw10 : ¬ w0.heap.size = w.heap.size := by omega
    clear HB HB0 HK HK0
    go_loopw [7] (fun iv wr => ∃ (i : Nat) (A : Option Addr) (c : Nat), iv = .int .i64 i ∧ i ≤ n ∧ c ≤ maxLen ∧ Hid (OwnC wr (w0.heap.size + 1) (.slice A i c) (List.replicate i blankC)) ∧ Hid (Blk wr w.heap.size 28 (frCells 0 0 (.slice none 0 0) 0 0)) ∧ Hid (Blk wr w0.heap.size 28 (frCells R C (.slice A i c) 0 0)) ∧ Hid (Below w.heap.size w wr)) (fun iv _ => n - (intOf iv).toNat)
    case atStart => exact ⟨0, none, 0, rfl, by omega, by omega, hide ⟨rfl, .inl ⟨rfl, rfl⟩⟩, HK2, HF2, HB2⟩
    case round =>
      clear HF2 HB2 HK2
      obtain ⟨i, A, c, rfl, hi, hcm, HOW, HK, HF, HB⟩ := hrel
      by_cases hlt2 : i < n
      · have f2 := HF.out.cell (i := 2) rfl
        have ff := fun i => HF.out.frozen i
        have hltz : (i : Int) < (n : Int) := by omega
        go_wp2
        have hD : w0.heap.size + 1 ≤ wr.heap.size := HF.out.lt
        go_region_law (first
            | (refine step_fn0 rfl 31 _ Tryd.func31 (by decide) (by simp [Tryd.f31]) _ rfl _ (blank_v _) ?_; rintro v4 w4 ⟨rfl, hb4⟩; have HF4 := hide ((show Blk wr.drew _ _ _ from HF.out).below hb4); have q4 := HF4.out.cell (i := 2) rfl; have HAL := hide ((Below.refl w4.heap.size w4).alloc (Nat.le_refl _) (.cells #[.int .i32 32, .int .i64 1, .int .i64 0, .bool false, .bool false, .bool false] 52)); have HF5 := hide (HF4.out.below HAL.out); have q5 := HF5.out.cell (i := 2) rfl; have HB5 := hide ((HB.out.drew.trans (hb4.mono HB.out.size)).trans (HAL.out.mono (Nat.le_trans HB.out.size hb4.size))); have HK5 := hide (((show Blk wr.drew _ _ _ from HK.out).below hb4).below HAL.out); have HOW5 := hide (((show OwnC wr.drew _ _ _ from HOW.out).below hb4).below HAL.out); have HC5 := hide (Blk.new w4 52 (clCells blankC)); have hD4 : w0.heap.size + 1 ≤ w4.heap.size := Nat.le_trans hD hb4.size; have hD5 : w0.heap.size + 1 < (w4.alloc (.cells #[.int .i32 32, .int .i64 1, .int .i64 0, .bool false, .bool false, .bool false] 52)).heap.size := (by rw [World.size_alloc]; omega); clear hb4; unfold clV blankC)
            | (refine step_appC (by rfl) (.tmp 24) (.tmp 26) (by rfl) (w0.heap.size + 1) (by simp; omega) (.slice A i c) _ blankC w4.heap.size 1 (by rfl) (by rfl) HOW5.out HC5.out (by rw [List.length_replicate]; omega) ?_; intro v6 w6 ho6 hb6; obtain ⟨A6, c6, rfl, hc6, hm6⟩ := ho6.formL (n := i + 1) (by simp); have HF6 := hide (HF5.out.under hb6 (Nat.lt_succ_self _)); have q6 := HF6.out.cell (i := 2) rfl; have HK6 := hide (HK5.out.under hb6 (by omega)); have HB6 := hide (HB5.out.trans (hb6.mono (by omega))); have HOW6 := hide ho6; have ff6 := fun i => HF6.out.frozen i; clear ho6 hb6))
        all_goals go_wp2
        all_goals exact ⟨⟨i + 1, A6, c6, by go_num, by omega, hm6, hide (by rw [List.replicate_succ']; exact HOW6.out.low (p := ⟨w0.heap.size, 2, none⟩) (Nat.lt_succ_self _) _), hide (HK6.out.far (p := ⟨w0.heap.size, 2, none⟩) hw10 _), hide (HF6.out.set 2 _), hide (HB6.out.setCell (p := ⟨w0.heap.size, 2, none⟩) (by show w.heap.size ≤ w0.heap.size; omega) _)⟩, by simp [intOf]; omega⟩
      · obtain rfl : i = n := by omega
        obtain ⟨z0, z1, z2, z3, z4, zf⟩ := fr_reads HK.out
        obtain ⟨f0, f1, f2, f3, f4, ff⟩ := fr_reads HF.out
        go_wp2
        refine bodyPost_ret (results_cell_tmp rfl _ _ w.heap.size 28 (frCells R C (.slice A i c) 0 0).toArray (0, 0) _ (.int .i64 0) rfl rfl (fr_put HK.out R C (.slice A i c) 0 0) Tryd.underlying28 rfl (by kernel_rfl)) rfl ⟨_, by rw [HN.out.2], ?_, fr_below HB.out (Nat.le_refl _) _ _ _ _ _⟩
        rw [HN.out.1]
        exact FrOwn.mono ⟨A, c, by simp [frV, frCells], hcm, by rw [List.length_replicate]; exact fr_low HOW.out (show w.heap.size < w0.heap.size + 1 by omega) _ _ _ _ _⟩ (by omega)
end Go.Proofs.YtojjdckpbmjjdaaDoor
