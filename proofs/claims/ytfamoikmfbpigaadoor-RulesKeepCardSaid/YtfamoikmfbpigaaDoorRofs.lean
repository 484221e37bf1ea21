/- rules.Of: a range over slices.All. -/
import Derived.Test.YtfamoikmfbpigaaDoorRtab
import Derived.Test.YtfamoikmfbpigaaDoorSrow
import Derived.Test.YtfamoikmfbpigaaDoorRangef
namespace Go.Proofs.YtfamoikmfbpigaaDoor
open Go.RowKit Go.Shelf
attribute [local go_sem] Oper.semAt_some

/-- The texts of a mode's rules. -/
def txtN (m : Nat) : List ByteArray := (rowN m).map fun r => ⟨r.1.toArray⟩
theorem txt_at {m j : Nat} (h : j < (rowN m).length) : (txtN m)[j]? = some ⟨(ruleN m j).1.toArray⟩ := by
  unfold txtN ruleN
  rw [List.getElem?_map, List.getElem?_eq_getElem h]
  rfl
theorem txt_len (m : Nat) : (txtN m).length = (rowN m).length := by simp [txtN]
theorem txt_step {m j : Nat} (h : j < (rowN m).length) : (txtN m).take (j + 1) = (txtN m).take j ++ [⟨(ruleN m j).1.toArray⟩] := by
  rw [List.take_add_one, txt_at h]; rfl
theorem slall_any (A : Option Addr) (n c : Nat) (w : World) : Calls Tryd.prog 35 #[.slice A n c] w fun e w' => e = .returned (.func (.func 49) #[] #[.pointer (some ⟨w.heap.size, 0, none⟩)]) ∧ w' = w.alloc (.cells #[.slice A n c] 70) := by
  go_enter Tryd.func35, Tryd.ntmps35
  go_wp2
  go_ret
  exact ⟨rfl, rfl⟩
theorem round_at2 {F : Fence} {n : Nat} {P : Program} {l : Nat} {r : Loop} {W W' : World} {tm : Array Value} {a1 : Act} {R : Ending → World → Prop} (h : W'.heap[l]? = some (.loop r)) (hr : r.state = .ready) (hF : F.fn r.fn)
    (hassign : ∀ K : Act → World → Prop, K a1 W' → r.assign.wpIn (F.inRound l) n P (Exit.then K (fun _ _ _ => False)) { tmps := tm, defers := [] } W)
    (hbody : r.body.wpIn (F.inRound l) n P (roundPost P l R) a1 (W'.putObj l (.loop { r with state := .busy }))) :
    RoundIn F n P l r.fn tm r.assign r.body W R :=
  roundIn_of_wpIn hF (hassign _ ⟨_, run_beginRound h hr, hbody⟩)
/-- Between two rounds: z the list's box, then the iterator's, the deferred's block and the loop's record. -/
structure OfI (w0 : World) (z : Nat) (o : Obj) (sv v : Value) (L : List ByteArray) (W : World) : Prop where
  rc : W.heap[z + 1 + 1 + 1]? = some o
  df : W.heap[z + 1 + 1]? = some (.deferred (some []))
  b0 : Boxed W z 50 v
  b1 : Boxed W (z + 1) 70 sv
  own : SRow W (z + 1 + 1 + 1 + 1) v L
  below : Below z w0 W
theorem OfI.low {w0 W W' : World} {z : Nat} {o : Obj} {sv v : Value} {L : List ByteArray} (h : OfI w0 z o sv v L W) (hb : Below W.heap.size W W') : OfI w0 z o sv v L W' := by
  have k : ∀ {i : Nat} {u : Obj}, W.heap[i]? = some u → W'.heap[i]? = some u := fun {i u} e => (hb.block i (Array.getElem?_eq_some_iff.1 e).1).trans e
  exact ⟨k h.rc, k h.df, k h.b0, k h.b1, h.own.below hb, h.below.trans (hb.mono (by have := (Array.getElem?_eq_some_iff.1 h.rc).1; omega))⟩
theorem OfI.put {w0 W : World} {z : Nat} {o : Obj} {sv v : Value} {L : List ByteArray} (h : OfI w0 z o sv v L W) (ho : o.isCells = false) (o' : Obj) : OfI w0 z o' sv v L (W.putObj (z + 1 + 1 + 1) o') := by
  have hlt := (Array.getElem?_eq_some_iff.1 h.rc).1
  exact ⟨World.putObj_heap_same hlt, (World.putObj_heap_other (by omega)).trans h.df, putObj_box h.b0 h.rc ho, putObj_box h.b1 h.rc ho, h.own.keep (fun b hb _ => World.putObj_heap_other (by omega)), h.below.grown (grownBy_putObj' W (z + 1 + 1 + 1) o') (by omega) (fun k e => by cases e; omega)⟩
theorem OfI.app {w0 W V : World} {z : Nat} {o : Obj} {sv v v' : Value} {L L' : List ByteArray} (h : OfI w0 z o sv v L W) (hg : W.grownBy V v.ownBlock) (ho : SRow V (z + 1 + 1 + 1 + 1) v' L') : OfI w0 z o sv v' L' (V.setCell ⟨z, 0, none⟩ v') := by
  have hr : ∀ q, v.ownBlock = some q → z + 1 + 1 + 1 + 1 ≤ q := fun q hq => (World.ownsRow.lt h.own q hq).1
  have k : ∀ {i : Nat} {u : Obj}, W.heap[i]? = some u → i < z + 1 + 1 + 1 + 1 → V.heap[i]? = some u := fun {i u} e hi => (hg.block i (Array.getElem?_eq_some_iff.1 e).1 (fun e => by have := hr i e.symm; omega)).trans e
  have k2 : ∀ {i : Nat} {u : Obj}, W.heap[i]? = some u → i < z + 1 + 1 + 1 + 1 → z ≠ i → (V.setCell ⟨z, 0, none⟩ v').heap[i]? = some u := fun {i u} e hi hne => (Below.heap_setCell _ _ _ _ (by simp; omega)).trans (k e hi)
  exact ⟨k2 h.rc (by omega) (by omega), k2 h.df (by omega) (by omega), Boxed.set v' (k h.b0 (by omega)), k2 h.b1 (by omega) (by omega), ho.keep (fun b hb _ => Below.heap_setCell _ _ _ _ (by simp; omega)),
    (h.below.grown hg (by have := (Array.getElem?_eq_some_iff.1 h.rc).1; omega) (fun k e => by have := hr k e; omega)).setCell (p := ⟨z, 0, none⟩) (Nat.le_refl _) _⟩
theorem OfI.start (w : World) (sv : Value) (rec : Obj) :
    OfI w w.heap.size rec sv (.slice none 0 0) [] ((((w.alloc (.cells #[.slice none 0 0] 50)).alloc (.cells #[sv] 70)).alloc (.deferred (some []))).alloc rec) := by
  refine ⟨?_, ?_, (((Boxed.new _ _ _).alloc _).alloc _).alloc _, ?_, SRow.nil _ _, ?_⟩
  · have := World.alloc_heap_new (((w.alloc (.cells #[.slice none 0 0] 50)).alloc (.cells #[sv] 70)).alloc (.deferred (some []))) rec
    simpa only [World.size_alloc] using this
  · have := World.alloc_heap_new ((w.alloc (.cells #[.slice none 0 0] 50)).alloc (.cells #[sv] 70)) (.deferred (some []))
    simp only [World.size_alloc] at this
    exact (Below.heap_alloc _ _ _ (by simp only [World.size_alloc]; omega)).trans this
  · have := ((Boxed.new (w.alloc (.cells #[.slice none 0 0] 50)) 70 sv).alloc (.deferred (some []))).alloc rec
    simpa using this
  · exact ((((Below.refl _ _).alloc (Nat.le_refl _) _).alloc (by simp) _).alloc (by simp; omega) _).alloc (by simp; omega) _
set_option maxRecDepth 100000 in
set_option maxHeartbeats 4000000 in
theorem rulesOf_any (m : Nat) (w : World) (hm : m < 3) (hT : RTab w) :
    Calls Tryd.prog 21 #[.int .i64 (m : Int)] w fun e w' => ∃ v, e = .returned v ∧ SRow w' w.heap.size v (txtN m) ∧ Below w.heap.size w w' := by
  obtain ⟨b, o, c, h0, h⟩ := hT m hm
  have hl := row_len m hm
  obtain ⟨n, hn⟩ : ∃ n, (rowN m).length = n := ⟨_, rfl⟩
  rw [hn] at h0 h hl
  have HN := hide hn
  have hbw : ∀ j, j < n → b < w.heap.size := fun j hj => World.block_lt_of_cell? _ _ (h j hj).1
  have HC := hide (fun (W : World) (hW : Below w.heap.size w W) (j : Nat) (hj : j < n) => show W.cell? ⟨b, o + j * 3, none⟩ = some (.string ⟨(ruleN m j).1.toArray⟩) ∧ W.cell? ⟨b, o + j * 3 + 1, none⟩ = some (.int .i64 (ruleN m j).2.1) ∧ W.cell? ⟨b, o + j * 3 + 2, none⟩ = some (.int .i64 (ruleN m j).2.2) from
    ⟨(hW.cell (hbw j hj)).trans (h j hj).1, (hW.cell (hbw j hj)).trans (h j hj).2.1, (hW.cell (hbw j hj)).trans (h j hj).2.2⟩)
  have hgl := World.block_lt_of_cell? _ _ h0
  have g0 : (w.alloc (.cells #[.slice none 0 0] 50)).cell? ⟨0, m, none⟩ = some (.slice (some ⟨b, o, none⟩) n c) := (((Below.refl _ _).alloc (Nat.le_refl _) _ : Below w.heap.size w (w.alloc (.cells #[.slice none 0 0] 50))).cell hgl).trans h0
  have i1 : ¬ (m : Int) < 0 := by omega
  have i2 : ¬ (3 : Int) ≤ (m : Int) := by omega
  have i3 : (m : Int) < 3 := by omega
  clear hT h hn h0 hbw
  refine (callsIn_wide (n := 9)).1 ?_
  refine callsIn_of_wp_marks Tryd.func21 rfl trivial ?_
  simp only [Tryd.ntmps21, List.size_toArray, List.length_cons, List.length_nil, Nat.reduceAdd, Nat.reduceSub, Array.replicate_succ, Array.replicate_zero, List.push_toArray, List.append_toArray, List.nil_append, List.cons_append]
  gi_wp2_with (first
    | (refine ⟨trivial, ?_⟩; gi_at_call 35; refine (callsIn_wide.2 (slall_any _ _ _ _)).mono ?_; rintro e w' ⟨rfl, rfl⟩)
    | fail)
  rename_i K hK
  refine range_open rfl (by omega) (gf := 49) (lb := #[.pointer (some ⟨w.heap.size + 1, 0, none⟩)]) rfl trivial (enters_of Tryd.func49 (by kernel_rfl) rfl) ?_
  intro fn rec hfn hrec
  have HREC := hide hrec
  have HP := hide (show ∀ st pe, (rec st pe).pending = pe ∧ (rec st pe).state = st from fun st pe => by rw [hrec]; exact ⟨rfl, rfl⟩)
  have HRR := hide (show ∀ st pe st' pe', { rec st pe with state := st', pending := pe' } = rec st' pe' from fun st pe st' pe' => by rw [hrec])
  clear hrec
  refine callsIn_of_wp Tryd.func49 rfl trivial ?_
  simp only [Tryd.ntmps49, List.size_toArray, List.length_cons, List.length_nil, Nat.reduceAdd, Nat.reduceSub, Array.replicate_succ, Array.replicate_zero, List.push_toArray, List.append_toArray, List.nil_append, List.cons_append]
  have HI0 := hide (OfI.start w (.slice (some ⟨b, o, none⟩) n c) (.loop (rec .ready none)))
  gi_wp2
  gi_loopw [7] (fun iv wr => ∃ (j : Nat) (v : Value), iv = .int .i64 j ∧ j ≤ n ∧ Hid (OfI w w.heap.size (.loop (rec .ready none)) (.slice (some ⟨b, o, none⟩) n c) v ((txtN m).take j) wr)) (fun iv _ => n - (intOf iv).toNat)
  case atStart => exact ⟨0, _, rfl, by omega, HI0⟩
  case round =>
    clear HI0
    obtain ⟨j, v, rfl, hj, HI⟩ := hrel
    by_cases hlt : j < n
    · obtain ⟨c1, c2, c3⟩ := HC.out wr HI.out.below j hlt
      have HS := hide (txt_step (m := m) (j := j) (by rw [HN.out]; exact hlt))
      obtain ⟨s, hs⟩ : ∃ s : ByteArray, ⟨(ruleN m j).1.toArray⟩ = s := ⟨_, rfl⟩
      obtain ⟨x, hx⟩ : ∃ x, (ruleN m j).2.1 = x := ⟨_, rfl⟩
      obtain ⟨y, hy⟩ : ∃ y, (ruleN m j).2.2 = y := ⟨_, rfl⟩
      rw [hs] at c1 HS
      rw [hx] at c2
      rw [hy] at c3
      clear hs hx hy
      have HI1 := hide (HI.out.low ((Below.refl _ _).alloc (Nat.le_refl _) (.cells #[.string s, .int .i64 x, .int .i64 y] 72)))
      have hy := fun u v => run_yield (P := Tryd.prog) (args := #[u, v]) HI1.out.rc (by rw [HREC.out]; rfl)
      obtain ⟨W1, hW1⟩ : ∃ W, wr.alloc (.cells #[.string s, .int .i64 x, .int .i64 y] 72) = W := ⟨_, rfl⟩
      have HW1 := hide hW1
      clear hW1
      gi_wp2
      rw [HW1.out] at HI1 hy ⊢
      have HI2 := hide (HI1.out.low ((Below.refl _ _).alloc (Nat.le_refl _) (.cells #[.string s, .int .i64 x, .int .i64 y] 72)))
      obtain ⟨W2, hW2⟩ : ∃ W, W1.alloc (.cells #[.string s, .int .i64 x, .int .i64 y] 72) = W := ⟨_, rfl⟩
      have HB2 := hide (show Blk W2 W1.heap.size 72 [.string s, .int .i64 x, .int .i64 y] by rw [← hW2]; exact Blk.new _ _ _)
      rw [hW2] at HI2
      refine round_at2 (a1 := ?_) (W' := W2) HI2.out.rc (HP.out _ _).2 (by rw [HREC.out]; exact hfn) ?_ ?_
      rotate_left
      · intro K9 hK9
        rw [HREC.out]
        gi_wp2
        exact hK9
      · rw [rec_state HRR.out HP.out]
        have hI3 := HI2.out.put rfl (.loop (rec .busy none))
        have hz1 := HI2.out.rc
        have hB3 : Blk (W2.putObj (w.heap.size + 1 + 1 + 1) (.loop (rec .busy none))) W1.heap.size 72 [.string s, .int .i64 x, .int .i64 y] := (World.putObj_heap_other (by have := (Array.getElem?_eq_some_iff.1 HI1.out.rc).1; omega)).trans HB2.out
        obtain ⟨WB, hWB⟩ : ∃ WB, W2.putObj (w.heap.size + 1 + 1 + 1) (.loop (rec .busy none)) = WB := ⟨_, rfl⟩
        rw [hWB] at hI3 hB3 ⊢
        have HI3 := hide hI3
        have d0 := hI3.b0.cell
        have e0 := hB3.cell (i := 0) rfl
        have HIA := hide (HI3.out.low ((Below.refl _ _).alloc (Nat.le_refl _) (.cells #[.string s] 9)))
        have hz4 := (Array.getElem?_eq_some_iff.1 HI3.out.rc).1
        obtain ⟨i0, hinf, hi0, hi1, hi2⟩ := info_strS_parts
        have hln : (List.take j (txtN m)).length = j := by rw [List.length_take, txt_len, HN.out]; omega
        have ho4 := HIA.out.own
        clear hI3 hy hWB hB3 hz1 hW2 c1 c2 c3
        rw [HREC.out]
        gi_wp2_with (gi_at_builtin; refine wpListIn_append_own _ rfl _ _ 50 rfl (w.heap.size + 1 + 1 + 1 + 1) 9 i0 _ 1 16 Tryd.underlying50 hinf hi0 hi1 hi2 (by rfl) (by decide) v _ _ rfl ho4 ⟨WB.heap.size, 0, none⟩ 1 1 [.string s] rfl rfl (one_strS WB s) (by simp [Value.oneCell']) (by rw [hln]; unfold maxLen; omega) (by rw [hln]; omega) (by simp; omega) ?_; intro v' w6 hown1 hgrow1 _; have ho6 := SRow.app hown1; obtain ⟨A9, c9, rfl, -, -⟩ := ho6.form (n := j + 1) (by rw [List.length_append, hln]; rfl); have d6 : Boxed w6 w.heap.size 50 v := (hgrow1.block _ HIA.out.b0.lt (fun e => by have := (World.ownsRow.lt HIA.out.own _ e.symm).1; omega)).trans HIA.out.b0; have d6c := d6.cell; have d6f := d6.frozen)
        have hI6 := HIA.out.app hgrow1 ho6
        rw [← HS.out] at hI6
        refine ⟨_, _, round_end HRR.out hI6.rc none, ?_⟩
        have hI7 := hI6.put rfl (.loop (rec .ready none))
        simp only [Option.isNone_none, if_true]
        obtain ⟨WF, hWF⟩ : ∃ WF, (w6.setCell ⟨w.heap.size, 0, none⟩ (.slice A9 (j + 1) c9)).putObj (w.heap.size + 1 + 1 + 1) (.loop (rec .ready none)) = WF := ⟨_, rfl⟩
        rw [hWF] at hI7 ⊢
        have HI7 := hide hI7
        clear hWF hI6 hI7 d6 d6c d6f ho6 hown1 hgrow1 ho4 HIA HI3 d0 e0 HB2 HI2 HI1
        gi_wp2
        go_roundw
        case rel => exact ⟨j + 1, _, by go_num, by omega, HI7⟩
        case measure => simp [intOf]; omega
    · obtain rfl : j = n := by omega
      gi_wp2
      go_end0
      obtain ⟨o', ho'⟩ := end_ex (P := Tryd.prog) (pe := none) HI.out.rc (by rw [(HP.out _ _).2]; simp) (HP.out _ _).1
      refine ⟨_, _, ho', ?_⟩
      have hE := HI.out.put rfl o'
      clear ho'
      dsimp only
      refine hK _ _ ?_
      obtain ⟨WE, hWE⟩ : ∃ WE, wr.putObj (w.heap.size + 1 + 1 + 1) o' = WE := ⟨_, rfl⟩
      rw [hWE] at hE ⊢
      clear hWE
      have hc0 := hE.b0.cell
      rw [List.take_of_length_le (by rw [txt_len, HN.out]; exact Nat.le_refl _)] at hE
      have HE := hide hE
      clear hE
      gi_wp2
      refine ⟨by simp, .inl ⟨_, _, rfl, run_takeDeferred HE.out.df, ?_⟩⟩
      have hb := HE.out.below.trans (belowK_b (w := w) (Nat.le_refl _) WE _ _ (.deferred none) (by omega) HE.out.df rfl rfl)
      refine ⟨_, results_tmp rfl _ _ _, v, rfl, ?_, hb⟩
      exact (HE.out.own.keep (fun b hb _ => World.putObj_heap_other (by omega))).mono (by omega)
end Go.Proofs.YtfamoikmfbpigaaDoor
