/- copy of slices of elements of several cells. Contracts of grids.clone and limnerref06.Copy. -/
import Derived.Test.YtojjdckpbmjjdaaDoorGsame
import Derived.Laws.CopyOwn
namespace Go.Proofs.YtojjdckpbmjjdaaDoor
open Go.RowKit

theorem run_copy_rowN {P : Program} (w : World) (dT sT ty elem : TypeId) (size g o dLen dCap : Nat) (a : Addr) (sLen sCap : Nat) (cur : Array Value) (t : TypeId) (cs : List Value)
    (hu : P.underlying dT = some (.slice elem)) (hs : (P.info? elem).map (·.size) = some size)
    (hg : w.heap[g]? = some (.cells cur t (0, 0))) (hn : cs.length = Nat.min sLen dLen * size)
    (hsrc : ∀ j v, cs[j]? = some v → w.cell? (a.add j) = some v) (hfit : o + cs.length ≤ cur.size) (h1 : ∀ v ∈ cs, v.oneCell' = true) :
    (Builtin.copy_ #[dT, sT] ty #[.slice (some ⟨g, o, none⟩) dLen dCap, .slice (some a) sLen sCap]).run P w =
      .ok (goInt (Nat.min sLen dLen)) (w.setRow g (cur.toList.take o ++ cs ++ cur.toList.drop (o + cs.length)).toArray) := by
  have hl := run_loadCells_list (P := P) w a cs hsrc
  have hst := run_storeCells_at P g o t cs 0 cur w hg (by simpa using hfit) h1
  cases hq : P.info? elem with
  | none => simp [hq] at hs
  | some i =>
    have hi : i.size = size := by simpa [hq] using hs
    simp [Builtin.copy_, run_underlying hu, Builtin.lenOf, Builtin.firstCells, sizeOf, typeInfo, hq, hi, ← hn, hl, hst]
theorem wpList_copy_N {P : Program} {w : World} {ops : Array Oper} {rest : List Oper} {o : Oper} {a : Act} {Q : Exit → Act → World → Prop} (hgd : o.guard = none) (d s : Operand) (dT sT : TypeId)
    (ho : o.op = .call { callee := .builtin .copy, args := #[d, s], argTypes := #[dT, sT] }) (elem : TypeId) (size : Nat) (hu : P.underlying dT = some (.slice elem)) (hsz : (P.info? elem).map (·.size) = some size)
    (g off dLen dCap : Nat) (ad : Addr) (sLen sCap : Nat) (hd : a.eval d = .slice (some ⟨g, off, none⟩) dLen dCap) (hs : a.eval s = .slice (some ad) sLen sCap)
    (cur : List Value) (t : TypeId) (hg : w.heap[g]? = some (.cells cur.toArray t (0, 0))) (cs : List Value) (hn : cs.length = Nat.min sLen dLen * size)
    (hsrc : ∀ j v, cs[j]? = some v → w.cell? (ad.add j) = some v) (hfit : off + cs.length ≤ cur.length) (h1 : ∀ v ∈ cs, v.oneCell' = true) (B : Nat) (w0 : World) (hb : Below B w0 w) (hBg : B ≤ g)
    (h : ∀ w', Hid (w'.heap[g]? = some (.cells (splice cur off cs).toArray t (0, 0))) → Below B w0 w' → wpList P ops Q rest (a.put o.dst (goInt (Nat.min sLen dLen))) w') : wpList P ops Q (o :: rest) a w := by
  refine wpList_plain hgd fun K hK => ?_
  have hrun := run_copy_rowN (P := P) w dT sT o.type elem size g off dLen dCap ad sLen sCap cur.toArray t cs hu hsz hg hn hsrc (by simpa using hfit) h1
  unfold Oper.wp
  simp only [execOp, ho, resolve, invoke, builtin]
  simp [hd, hs, hrun, Result.andThen]
  exact hK _ _ (h _ (show _ = _ by simpa [splice] using setRow_heap w g _ _ t _ hg) (below_setRow hb hBg _))

/-- A frame whose slice the call made. -/
def FrOwn (W : World) (B : Nat) (v : Value) (f : Fr) : Prop := ∃ A cap, v = frV f A f.cs.length cap ∧ cap ≤ maxLen ∧ OwnC W B (.slice A f.cs.length cap) f.cs
theorem FrOwn.at {W : World} {B : Nat} {v : Value} {f : Fr} (h : FrOwn W B v f) : FrAt W v f := by
  obtain ⟨A, cap, e, h1, h2⟩ := h
  obtain ⟨A', c, e', h3⟩ := h2.form
  injection e' with _ _ e3
  subst e3
  exact ⟨A, cap, e, h3, h1, h2.cls⟩
theorem FrOwn.below {w W : World} {B : Nat} {v : Value} {f : Fr} (h : FrOwn w B v f) (hb : Below w.heap.size w W) : FrOwn W B v f := by
  obtain ⟨A, cap, e, h1, h2⟩ := h
  exact ⟨A, cap, e, h1, h2.below hb⟩
theorem flatC_one (L : List Cl) : ∀ v ∈ flatC L, v.oneCell' = true := by
  intro v hv
  unfold flatC at hv
  rw [List.mem_flatMap] at hv
  obtain ⟨c, -, hc⟩ := hv
  simp only [clCells, List.mem_cons, List.not_mem_nil, or_false] at hc
  rcases hc with rfl | rfl | rfl | rfl | rfl | rfl <;> rfl
/-- What a slice of cells reads, cell by cell. -/
theorem ClsAt.flat {W : World} {b o : Nat} {L : List Cl} (h : ClsAt W (some ⟨b, o, none⟩) L) (j : Nat) (v : Value) (hj : (flatC L)[j]? = some v) : W.cell? ((⟨b, o, none⟩ : Addr).add j) = some v := by
  have hlt := (List.getElem?_eq_some_iff.1 hj).1
  rw [flatC_len] at hlt
  obtain ⟨c, hc⟩ : ∃ c, L[j / 6]? = some c := ⟨_, List.getElem?_eq_getElem (by omega)⟩
  have h6 := flatC_at L (j / 6) c hc (j % 6) (Nat.mod_lt _ (by omega))
  rw [show j / 6 * 6 + j % 6 = j by omega, hj] at h6
  obtain ⟨b', o', e, -, hcc⟩ := h _ c hc
  injection e with e
  injection e with e1 e2
  subst e1 e2
  have := hcc (j % 6) v h6.symm
  rw [show o + j / 6 * 6 + j % 6 = o + j by omega] at this
  rw [← this]
  congr 1
  unfold Addr.add; split <;> simp_all
theorem infoC : (Tryd.prog.info? 52).map (fun i => (i.zero, i.size, i.bytes)) = some (some (.agg #[.int .i32 0, .int .i64 0, .int .i64 0, .bool false, .bool false, .bool false]), 6, 32) := by kernel_rfl
theorem infoC2 : (Tryd.prog.info? 52).map (·.size) = some 6 := by kernel_rfl
theorem splice_all (cur cs : List Value) (h : cs.length = cur.length) : splice cur 0 cs = cs := by unfold splice; rw [List.take_zero, List.nil_append, Nat.zero_add, h, List.drop_length, List.append_nil]
theorem own_new {W : World} {B g n : Nat} {L : List Cl} (hg : B ≤ g) (hh : W.heap[g]? = some (.cells (flatC L).toArray 52 (0, 0))) (hn : L.length = n) (hm : n ≤ maxLen) : OwnC W B (.slice (some ⟨g, 0, none⟩) n n) L := by
  subst hn
  exact ⟨by rw [flatC_len], .inr ⟨g, L.length, (flatC L).toArray, rfl, hg, hh, Nat.le_refl _, hm, by simp [flatC_len], by rw [List.take_of_length_le (by simp [flatC_len])]⟩⟩

theorem own_row {W : World} {B g n : Nat} {e : TypeId} {xs : List Value} (h : W.ownsRow B e 6 (.slice (some ⟨g, 0, none⟩) n n) n xs) (hn : 0 < n) : ∃ cur : List Value, cur.length = n * 6 ∧ W.heap[g]? = some (.cells cur.toArray e (0, 0)) := by
  rcases h.2 with ⟨e1, h0⟩ | ⟨g', cap', cur, e1, hg, hh, hcc, hmx, hsz, htk⟩
  · cases e1
  · injection e1 with e1 e2 e3
    injection e1 with e1
    injection e1 with e1
    subst e1 e3
    exact ⟨cur.toList, by rw [Array.length_toList, hsz], by rw [hh, Array.toArray_toList]⟩
theorem copy_new {W : World} {g n b o cap : Nat} {L : List Cl} {cur : List Value} (hn : L.length = n) (hc : cur.length = n * 6) (hg : W.heap[g]? = some (.cells cur.toArray 52 (0, 0))) (h : ClsAt W (some ⟨b, o, none⟩) L) (ty : TypeId) :
    ∃ w2, (Builtin.copy_ #[26, 26] ty #[.slice (some ⟨g, 0, none⟩) n n, .slice (some ⟨b, o, none⟩) n cap]).run Tryd.prog W = .ok (goInt n) w2 ∧ w2.heap[g]? = some (.cells (flatC L).toArray 52 (0, 0)) ∧ Below g W w2 := by
  have hm : Nat.min n n = n := Nat.min_self n
  have hr := run_copy_rowN (P := Tryd.prog) W 26 26 ty 52 6 g 0 n n ⟨b, o, none⟩ n cap cur.toArray _ (flatC L) Tryd.underlying26 infoC2 hg (by rw [flatC_len, hn, hm]) h.flat (by simp [flatC_len, hn, hc]) (flatC_one L)
  rw [hm] at hr
  refine ⟨_, hr, ?_, below_setRow (Below.refl _ _) (Nat.le_refl _) _⟩
  have h9 := setRow_heap W g cur.toArray (([] : List Value) ++ flatC L ++ []).toArray _ (0, 0) hg
  simpa [flatC_len, hn, hc, List.drop_eq_nil_of_le] using h9
set_option maxRecDepth 100000 in
set_option maxHeartbeats 1000000 in
theorem clone_any (f : Fr) (v : Value) (w : World) (h : FrAt w v f) (h0 : 0 < f.cs.length) (h9 : f.cs.length ≤ 20000) :
    Calls Tryd.prog 33 #[v] w fun e w' => ∃ v', e = .returned v' ∧ FrOwn w' w.heap.size v' f ∧ Below w.heap.size w w' := by
  obtain ⟨A, cap, rfl, hc, hcap, hcl⟩ := h
  obtain ⟨rows, cols, cs, row, col⟩ := f
  unfold frV
  dsimp only at hc hcl h0 h9 ⊢
  obtain ⟨b, o, rfl⟩ := at_inj hcl h0
  obtain ⟨n, hn⟩ : ∃ n, cs.length = n := ⟨_, rfl⟩
  rw [hn] at hc h0 h9 ⊢
  have HN := hide hn
  have HCL := hide hcl
  clear hn hcl
  obtain ⟨i0, hi, hz0, hz1, hz2⟩ := info_parts infoC
  have HK := hide ((Blk.new w 28 (frCells rows cols (.slice (some ⟨b, o, none⟩) n cap) row col)).alloc (.cells (frCells 0 0 (.slice none 0 0) 0 0).toArray 28))
  have HZ := hide (Blk.new (w.alloc (.cells (frCells rows cols (.slice (some ⟨b, o, none⟩) n cap) row col).toArray 28)) 28 (frCells 0 0 (.slice none 0 0) 0 0))
  rw [World.size_alloc] at HZ
  have HB := hide (show Below w.heap.size w ((w.alloc (.cells (frCells rows cols (.slice (some ⟨b, o, none⟩) n cap) row col).toArray 28)).alloc (.cells (frCells 0 0 (.slice none 0 0) 0 0).toArray 28)) from ((Below.refl _ _).alloc (Nat.le_refl _) _).alloc (by simp) _)
  go_enter Tryd.func33, Tryd.ntmps33
  go_wp2_with (first
    | (at_make; refine wpList_make_full _ rfl _ _ _ rfl w.heap.size 52 i0 _ 6 Tryd.underlying26 hi hz0 hz1 _ _ _ _ n rfl rfl rfl rfl (by rw [hz2]; omega) (by unfold maxLen; omega) (by simp; omega) ?_; intro w1 hown hgr; have hb1 : Below w.heap.size w w1 := HB.out.grown hgr (by simp; omega) (fun k e => by cases e); have HB1 := hide hb1; have hK1 : Blk w1 w.heap.size 28 (frCells rows cols (.slice (some ⟨b, o, none⟩) n cap) row col) := (hgr.block _ HK.out.lt (by simp)).trans HK.out; have hZ1 : Blk w1 (w.heap.size + 1) 28 (frCells 0 0 (.slice none 0 0) 0 0) := (hgr.block _ HZ.out.lt (by simp)).trans HZ.out; have HK1 := hide hK1; have HZ1 := hide hZ1; have m2 := hK1.cell (i := 2) rfl; obtain ⟨cur, hcl, hrow⟩ := own_row hown (by omega); obtain ⟨w2, hcp, hh2, hb2⟩ := copy_new (cap := cap) HN.out hcl (show w1.heap[w.heap.size + 1 + 1]? = _ by simpa using hrow) (HCL.out.below HB1.out) 3; have HH2 := hide hh2; have hK2 := HK1.out.under hb2 (by omega); have hZ2 := HZ1.out.under hb2 (by omega); have HK2 := hide hK2; have HZ2 := hide hZ2; have HB2 := hide (HB1.out.trans (hb2.mono (by omega))); have k0 := hK2.cell (i := 0) rfl; have k1 := hK2.cell (i := 1) rfl; have k2 := hK2.cell (i := 2) rfl; have k3 := hK2.cell (i := 3) rfl; have k4 := hK2.cell (i := 4) rfl; have kf := hK2.frozen 2; have z0 := hZ2.cell (i := 0) rfl; have z1 := hZ2.cell (i := 1) rfl; have z2 := hZ2.cell (i := 2) rfl; have z3 := hZ2.cell (i := 3) rfl; have z4 := hZ2.cell (i := 4) rfl; have zf := fun i => hZ2.frozen i; clear hcl hrow hown hh2 hb2 hK2 hZ2 hgr hb1 hK1 hZ1)
    | fail)
  have HHB : Blk w2 (w.heap.size + 1 + 1) 52 (flatC cs) := HH2.out
  have hZf := (((((HZ2.out.far (p := ⟨w.heap.size, 2, none⟩) (by simp) (.slice (some ⟨w.heap.size + 1 + 1, 0, none⟩) n n)).set 0 (.int .i64 rows)).set 1 (.int .i64 cols)).set 2 (.slice (some ⟨w.heap.size + 1 + 1, 0, none⟩) n n)).set 3 (.int .i64 row)).set 4 (.int .i64 col)
  have hHf := (((((HHB.far (p := ⟨w.heap.size, 2, none⟩) (by simp; omega) (.slice (some ⟨w.heap.size + 1 + 1, 0, none⟩) n n)).far (p := ⟨w.heap.size + 1, 0, none⟩) (by simp) (.int .i64 rows)).far (p := ⟨w.heap.size + 1, 1, none⟩) (by simp) (.int .i64 cols)).far (p := ⟨w.heap.size + 1, 2, none⟩) (by simp) (.slice (some ⟨w.heap.size + 1 + 1, 0, none⟩) n n)).far (p := ⟨w.heap.size + 1, 3, none⟩) (by simp) (.int .i64 row)).far (p := ⟨w.heap.size + 1, 4, none⟩) (by simp) (.int .i64 col)
  have hBf := (((((HB2.out.setCell (p := ⟨w.heap.size, 2, none⟩) (Nat.le_refl _) (.slice (some ⟨w.heap.size + 1 + 1, 0, none⟩) n n)).setCell (p := ⟨w.heap.size + 1, 0, none⟩) (by simp) (.int .i64 rows)).setCell (p := ⟨w.heap.size + 1, 1, none⟩) (by simp) (.int .i64 cols)).setCell (p := ⟨w.heap.size + 1, 2, none⟩) (by simp) (.slice (some ⟨w.heap.size + 1 + 1, 0, none⟩) n n)).setCell (p := ⟨w.heap.size + 1, 3, none⟩) (by simp) (.int .i64 row)).setCell (p := ⟨w.heap.size + 1, 4, none⟩) (by simp) (.int .i64 col)
  refine bodyPost_ret (results_cell_row rfl _ _ (w.heap.size + 1) 28 #[.int .i64 rows, .int .i64 cols, .slice (some ⟨w.heap.size + 1 + 1, 0, none⟩) n n, .int .i64 row, .int .i64 col] (0, 0) _ rfl hZf Tryd.underlying28 rfl (by kernel_rfl)) rfl ⟨_, rfl, ⟨some ⟨w.heap.size + 1 + 1, 0, none⟩, n, ?_, by unfold maxLen; omega, ?_⟩, hBf⟩
  · simp [frV, HN.out]
  · have := own_new (B := w.heap.size) (by omega) hHf HN.out (by unfold maxLen; omega)
    simpa [HN.out] using this
end Go.Proofs.YtojjdckpbmjjdaaDoor
