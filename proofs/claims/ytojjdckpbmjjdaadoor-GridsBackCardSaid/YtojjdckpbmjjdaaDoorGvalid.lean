/- Contract of grids.Valid: a range over slices.Chunk. -/
import Derived.Test.YtojjdckpbmjjdaaDoorGchunk
namespace Go.Proofs.YtojjdckpbmjjdaaDoor
open Go.RowKit Go.Shelf
attribute [local go_sem] Oper.semAt_some

/-- The frame's own cells. -/
def frCells (rows cols : Int) (sv : Value) (row col : Int) : List Value := [.int .i64 rows, .int .i64 cols, sv, .int .i64 row, .int .i64 col]
theorem validF_of {R C : Nat} {cs : List Cl} {row col : Int} (hm : mayB R C = true) (hs : (cs.length : Int) = R * C) (hc : 0 ≤ row ∧ row < R ∧ 0 ≤ col ∧ col < C) : validF ⟨R, C, cs, row, col⟩ = validL cs R C := by
  unfold validF sizeB curB
  simp only [hm, hs, Int.toNat_natCast, Bool.true_and, decide_true]
  rw [decide_eq_true hc, Bool.true_and]
theorem valid_may {f : Fr} (h : mayB f.rows f.cols = false) : validF f = false := by unfold validF; rw [h]; rfl
theorem valid_size {f : Fr} (h : ¬ (f.cs.length : Int) = f.rows * f.cols) : validF f = false := by unfold validF sizeB; rw [decide_eq_false h]; simp
theorem valid_cur {f : Fr} (h : ¬ (0 ≤ f.row ∧ f.row < f.rows ∧ 0 ≤ f.col ∧ f.col < f.cols)) : validF f = false := by unfold validF curB; rw [decide_eq_false h]; simp

set_option maxRecDepth 100000 in
set_option maxHeartbeats 4000000 in
theorem valid_any (f : Fr) (v : Value) (w : World) (h : FrAt w v f) (hT : WTabs w) :
    Calls Tryd.prog 26 #[v] w fun e w' => e = .returned (.bool (validF f)) ∧ Below w.heap.size w w' := by
  have HT := hide hT
  obtain ⟨A, cap, rfl, hn, hcap, hcl⟩ := h
  obtain ⟨rows, cols, cs, row, col⟩ := f
  dsimp only at hn hcap hcl
  obtain ⟨n, hnn⟩ : ∃ n, cs.length = n := ⟨_, rfl⟩
  have HN := hide hnn
  have HCL := hide hcl
  unfold frV
  dsimp only
  rw [hnn] at hn ⊢
  clear hT hcl hnn
  have hmx := hcap
  unfold maxLen at hmx
  refine (callsIn_wide (n := 9)).1 ?_
  refine callsIn_of_wp_marks Tryd.func26 rfl trivial ?_
  simp only [Tryd.ntmps26, List.size_toArray, List.length_cons, List.length_nil, Nat.reduceAdd, Nat.reduceSub, Array.replicate_succ, Array.replicate_zero, List.push_toArray, List.append_toArray, List.nil_append, List.cons_append]
  have HB0 := hide (show Below w.heap.size w ((w.alloc (.cells (frCells rows cols (.slice A n cap) row col).toArray 28)).alloc (.cells #[.bool false] 4)) from ((Below.refl _ _).alloc (Nat.le_refl _) _).alloc (by simp) _)
  by_cases hmay : mayB rows cols = true
  case neg =>
    have HV := hide (valid_may (f := ⟨rows, cols, cs, row, col⟩) (by simpa using hmay))
    have HM := hide (fun W => may_is rows cols false (by simpa using hmay) W)
    clear hmay
    gi_wp2_with (first | (refine ⟨trivial, ?_⟩; gi_at_call 29; refine (callsIn_wide.2 (HM.out _)).mono ?_; rintro e w' ⟨rfl, rfl⟩) | fail)
    refine ⟨.bool false, by simp [results, Tryd.results26, go_sem], ret_bG (by rw [HV.out]), HB0.out⟩
  case pos =>
    have HM := hide (fun W => may_is rows cols true hmay W)
    obtain ⟨m1, m2, m3, m4⟩ := may_t.1 hmay
    have hp0 : 16 ≤ rows * cols := by have := Int.mul_le_mul m1 m3 (by omega) (by omega); omega
    have hp1 : rows * cols ≤ 20000 := by have := Int.mul_le_mul m2 m4 (by omega) (by omega); omega
    obtain ⟨p, hpp⟩ : ∃ p, rows * cols = p := ⟨_, rfl⟩
    have HP0 := hide hpp
    have HMAY := hide hmay
    rw [hpp] at hp0 hp1
    have hwr : IntKind.i64.wrap (rows * cols) = p := by rw [hpp]; simp [IntKind.wrap_i64]; omega
    clear hmay hpp
    by_cases hsz : (n : Int) = p
    case neg =>
      have HV := hide (valid_size (f := ⟨rows, cols, cs, row, col⟩) (by dsimp only; rw [HN.out, HP0.out]; exact hsz))
      gi_wp2_with (first | (refine ⟨trivial, ?_⟩; gi_at_call 29; refine (callsIn_wide.2 (HM.out _)).mono ?_; rintro e w' ⟨rfl, rfl⟩) | fail)
      refine ⟨.bool false, by simp [results, Tryd.results26, go_sem], ret_bG (by rw [HV.out]), HB0.out⟩
    case pos =>
      subst hsz
      by_cases hcur : 0 ≤ row ∧ row < rows ∧ 0 ≤ col ∧ col < cols
      case neg =>
        have HV := hide (valid_cur (f := ⟨rows, cols, cs, row, col⟩) hcur)
        have h4 : row < 0 ∨ (¬ row < 0 ∧ rows ≤ row) ∨ (¬ row < 0 ∧ ¬ rows ≤ row ∧ col < 0) ∨ (¬ row < 0 ∧ ¬ rows ≤ row ∧ ¬ col < 0 ∧ cols ≤ col) := by omega
        clear hcur
        rcases h4 with h4 | ⟨h4, h5⟩ | ⟨h4, h5, h6⟩ | ⟨h4, h5, h6, h7⟩
        all_goals
          gi_wp2_with (first | (refine ⟨trivial, ?_⟩; gi_at_call 29; refine (callsIn_wide.2 (HM.out _)).mono ?_; rintro e w' ⟨rfl, rfl⟩) | fail)
          refine ⟨.bool false, by simp [results, Tryd.results26, go_sem], ret_bG (by rw [HV.out]), HB0.out⟩
      case pos =>
        obtain ⟨c1, c2, c3, c4⟩ := hcur
        obtain ⟨R, rfl⟩ : ∃ R : Nat, rows = R := ⟨rows.toNat, by omega⟩
        obtain ⟨C, rfl⟩ : ∃ C : Nat, cols = C := ⟨cols.toNat, by omega⟩
        have HV := hide (validF_of (cs := cs) HMAY.out (by rw [HN.out, HP0.out]) ⟨c1, c2, c3, c4⟩)
        obtain ⟨b, o, hA, -⟩ := ClsAt.at (j := 0) HCL.out (List.getElem?_eq_getElem (show 0 < cs.length by rw [HN.out]; omega))
        subst hA
        have HNRC := hide (show n = R * C from by have := HP0.out; exact_mod_cast this.symm)
        have d1 : ¬ row < 0 := by omega
        have d2 : ¬ (R : Int) ≤ row := by omega
        have d3 : ¬ col < 0 := by omega
        have d4 : ¬ (C : Int) ≤ col := by omega
        gi_wp2_with (first
          | (refine ⟨trivial, ?_⟩; gi_at_call 29; refine (callsIn_wide.2 (HM.out _)).mono ?_; rintro e w' ⟨rfl, rfl⟩)
          | (refine ⟨trivial, ?_⟩; gi_at_call 39; refine (callsIn_wide.2 (chunk_any _ _ _ _ (by omega) _)).mono ?_; rintro e w' ⟨rfl, rfl⟩)
          | fail)
        rename_i K hK
        obtain ⟨W2, hW2⟩ : ∃ W2, W2 = (w.alloc (.cells #[.int .i64 R, .int .i64 C, .slice (some ⟨b, o, none⟩) n cap, .int .i64 row, .int .i64 col] 28)).alloc (.cells #[.bool false] 4) := ⟨_, rfl⟩
        have hsz2 : W2.heap.size = w.heap.size + 1 + 1 := by rw [hW2]; simp
        have HB2 := hide (show Below w.heap.size w W2 by rw [hW2]; exact HB0.out)
        have HBX := hide (show Boxed W2 (w.heap.size + 1) 4 (.bool false) by
          rw [hW2]
          have := Boxed.new (w.alloc (.cells #[.int .i64 R, .int .i64 C, .slice (some ⟨b, o, none⟩) n cap, .int .i64 row, .int .i64 col] 28)) 4 (.bool false)
          simpa only [World.size_alloc] using this)
        rw [← hW2]
        clear hW2 HB0 HM
        refine range_open rfl (by omega) (gf := 47) (lb := #[.pointer (some ⟨w.heap.size + 1 + 1, 0, none⟩), .pointer (some ⟨w.heap.size + 1 + 1 + 1, 0, none⟩)]) rfl trivial (enters_of Tryd.func47 (by kernel_rfl) rfl) ?_
        intro fn rec hfn hrec
        have HREC := hide hrec
        have HP := hide (show ∀ st pe, (rec st pe).pending = pe ∧ (rec st pe).state = st from fun st pe => by rw [hrec]; exact ⟨rfl, rfl⟩)
        have HRR := hide (show ∀ st pe st' pe', { rec st pe with state := st', pending := pe' } = rec st' pe' from fun st pe st' pe' => by rw [hrec])
        clear hrec
        refine callsIn_of_wp Tryd.func47 rfl trivial ?_
        simp only [Tryd.ntmps47, List.size_toArray, List.length_cons, List.length_nil, Nat.reduceAdd, Nat.reduceSub, Array.replicate_succ, Array.replicate_zero, List.push_toArray, List.append_toArray, List.nil_append, List.cons_append]
        have HI0 := hide (ChI.start W2 (.slice (some ⟨b, o, none⟩) n cap) C (.loop (rec .ready none)) w w.heap.size HB2.out (by omega))
        rw [hsz2] at HI0
        have HBX0 := hide (show Boxed ((((W2.alloc (.cells #[.slice (some ⟨b, o, none⟩) n cap] 26)).alloc (.cells #[.int .i64 C] 3)).alloc (.deferred (some []))).alloc (.loop (rec .ready none))) (w.heap.size + 1) 4 (.bool false) from (((HBX.out.alloc _).alloc _).alloc _).alloc _)
        gi_wp2
        gi_loopw [4] (fun iv wr => ∃ k x : Nat, iv = .int .i64 x ∧ Hid (x = k * C) ∧ k ≤ R ∧ x ≤ n ∧ Hid (ChI w w.heap.size (w.heap.size + 1 + 1) (.loop (rec .ready none)) (.slice (some ⟨b, o, none⟩) n cap) C wr) ∧ Hid (Boxed wr (w.heap.size + 1) 4 (.bool false)) ∧ Hid (∀ j, j < k → rowB (rowL cs C j) = true)) (fun iv _ => n - (intOf iv).toNat)
        case atStart => exact ⟨0, 0, rfl, hide (by simp), by omega, by omega, HI0, HBX0, hide (fun j hj => by omega)⟩
        case round =>
          clear HI0 HBX0
          obtain ⟨k, x, rfl, HX, hk, hx, HI, HBo, HRows⟩ := hrel
          have hcs := HI.out.2.2.2.1.cell
          have hcz := HI.out.2.2.2.2.1.cell
          by_cases hlt : k < R
          · have hxC : x + C ≤ n := by
              have h1 : (k + 1) * C ≤ R * C := Nat.mul_le_mul_right _ hlt
              have h2 := HX.out
              have h3 := HNRC.out
              rw [Nat.add_mul, Nat.one_mul] at h1
              omega
            have hlt2 : x < n := by omega
            clear hk hx
            have hmin : min (C : Int) ((n - x : Nat) : Int) = (C : Int) := by omega
            have hto : ((x : Int) + (C : Int)).toNat - x = C := by omega
            gi_wp2
            gi_region
            have hI2 := HI.out.drewN 1
            have hB2 := HBo.out
            obtain ⟨W0, hW0⟩ : ∃ W0, wr.drew = W0 := ⟨_, rfl⟩
            rw [show wr.drewN 1 = W0 from hW0] at hI2
            replace hB2 : Boxed W0 (w.heap.size + 1) 4 (.bool false) := by rw [← hW0]; exact hB2
            rw [hW0]
            have hcs := hI2.2.2.2.1.cell
            have hcz := hI2.2.2.2.2.1.cell
            have HI2 := hide hI2
            have hy := fun u => run_yield (P := Tryd.prog) (args := #[u]) hI2.2.1 (by rw [HREC.out]; rfl)
            clear hI2 hW0
            gi_wp2
            clear hmin hto
            have HSL := hide (show ∀ W, Below w.heap.size w W → SlC W (.slice (some ⟨b, o + x * 6, none⟩) C C) (rowL cs C k) from fun W hW => by
              refine ⟨_, C, C, rfl, ?_, Nat.le_refl _, by unfold maxLen; omega, ?_⟩
              · rw [rowL_len (rows := R) (by rw [HN.out, HNRC.out]) hlt]
              · have := (show ClsAt W _ _ from HCL.out.below hW).sub (k * C) C
                rw [← HX.out] at this
                unfold rowL
                rw [← HX.out]
                exact this)
            refine round_at (a1 := ?_) HI2.out.2.1 (HP.out _ _).2 (by rw [HREC.out]; exact hfn) ?_ ?_
            rotate_left
            · intro K9 hK9
              rw [HREC.out]
              gi_wp2
              exact hK9
            · rw [rec_state HRR.out HP.out]
              have hI3 := HI2.out.put rfl (.loop (rec .busy none))
              have hB3 : Boxed (W0.putObj (w.heap.size + 1 + 1 + 1 + 1 + 1) (.loop (rec .busy none))) (w.heap.size + 1) 4 (.bool false) := putObj_box hB2 HI2.out.2.1 rfl
              obtain ⟨WB, hWB⟩ : ∃ WB, W0.putObj (w.heap.size + 1 + 1 + 1 + 1 + 1) (.loop (rec .busy none)) = WB := ⟨_, rfl⟩
              rw [hWB] at hI3 hB3 ⊢
              have HI3 := hide hI3
              have HB3 := hide hB3
              obtain ⟨q, hq⟩ : ∃ q, rowB (rowL cs C k) = q := ⟨_, rfl⟩
              have HR := hide (row_any (rowL cs C k) _ WB (HSL.out _ hI3.2.2.2.2.2) (HT.out.below hI3.2.2.2.2.2))
              rw [hq] at HR
              have HQ := hide hq
              clear hI3 hy hWB hB3 hq
              rw [HREC.out]
              cases q with
              | true =>
                gi_wp2_with (refine ⟨trivial, ?_⟩; gi_at_call 44; refine (CallsIn.inRound _ (callsIn_wide.2 HR.out)).mono ?_; rintro e w1 ⟨rfl, hb1⟩)
                have hI5 := HI3.out.below hb1
                have hB5 : Boxed w1 (w.heap.size + 1) 4 (.bool false) := (hb1.block _ HB3.out.lt).trans HB3.out
                refine ⟨_, _, round_end HRR.out hI5.2.1 none, ?_⟩
                have hI6 := hI5.put rfl (.loop (rec .ready none))
                have hB6 := putObj_box (o' := .loop (rec .ready none)) hB5 hI5.2.1 rfl
                simp only [Option.isNone_none, if_true]
                obtain ⟨WF, hWF⟩ : ∃ WF, w1.putObj (w.heap.size + 1 + 1 + 1 + 1 + 1) (.loop (rec .ready none)) = WF := ⟨_, rfl⟩
                rw [hWF] at hI6 hB6 ⊢
                have hcz2 := hI6.2.2.2.2.1.cell
                have HI6 := hide hI6
                have HB6 := hide hB6
                clear hI5 hB5 hWF hI6 hB6 hb1
                gi_wp2
                go_roundw
                case rel => exact ⟨k + 1, x + C, by go_num, hide (by have := HX.out; rw [Nat.add_mul, Nat.one_mul]; omega), by omega, by omega, HI6, HB6, hide (fun j hj => by rcases Nat.lt_succ_iff_lt_or_eq.1 hj with h | rfl; exact HRows.out j h; exact HQ.out)⟩
                case measure => simp [intOf]; omega
              | false =>
                gi_wp2_with (refine ⟨trivial, ?_⟩; gi_at_call 44; refine (CallsIn.inRound _ (callsIn_wide.2 HR.out)).mono ?_; rintro e w1 ⟨rfl, hb1⟩; have hI5 := HI3.out.below hb1; have hB5 : Boxed w1 (w.heap.size + 1) 4 (.bool false) := (hb1.block _ HB3.out.lt).trans HB3.out; have hc5 := hB5.cell; have hf5 := hB5.frozen)
                have hI6 := hI5.set (g := w.heap.size + 1) (by omega) (by omega) 0 (.bool false)
                refine ⟨_, _, round_end HRR.out hI6.2.1 (some .ret), ?_⟩
                have hB6 : Boxed (w1.setCell ⟨w.heap.size + 1, 0, none⟩ (.bool false)) (w.heap.size + 1) 4 (.bool false) := hB5.set _
                have hI7 := hI6.put rfl (.loop (rec .done (some .ret)))
                have hB7 := putObj_box (o' := .loop (rec .done (some .ret))) hB6 hI6.2.1 rfl
                obtain ⟨WD, hWD⟩ : ∃ WD, (w1.setCell ⟨w.heap.size + 1, 0, none⟩ (.bool false)).putObj (w.heap.size + 1 + 1 + 1 + 1 + 1) (.loop (rec .done (some .ret))) = WD := ⟨_, rfl⟩
                rw [hWD] at hI7 hB7
                simp only [Option.isNone_some, Bool.false_eq_true, if_false, hWD]
                have HI7 := hide hI7
                have HB7 := hide hB7
                clear hI5 hI6 hI7 hB5 hB6 hB7 hb1 hWD hc5 hf5
                gi_wp2
                refine bodyPost_ret (results_none rfl _ _ _) rfl ?_
                obtain ⟨o', ho'⟩ := end_ex (P := Tryd.prog) (pe := some .ret) HI7.out.2.1 (by rw [(HP.out _ _).2]; simp) (HP.out _ _).1
                refine ⟨_, _, ho', ?_⟩
                have hE := HI7.out.put rfl o'
                have hB8 := putObj_box (o' := o') HB7.out HI7.out.2.1 rfl
                clear ho'
                dsimp only
                obtain ⟨WE, hWE⟩ : ∃ WE, WD.putObj (w.heap.size + 1 + 1 + 1 + 1 + 1) o' = WE := ⟨_, rfl⟩
                rw [hWE] at hE hB8 ⊢
                clear hWE
                have HE := hide hE
                have HB8 := hide hB8
                clear hE hB8
                gi_wp2
                refine ⟨by simp, .inl ⟨_, _, rfl, run_takeDeferred HE.out.2.2.1, ?_⟩⟩
                obtain ⟨r0, r1⟩ := HE.out.fin HB8.out (by omega)
                exact ⟨.bool false, by simp [results, Tryd.results26, go_sem, r0], ret_bG (by rw [HV.out]; refine (Bool.eq_false_iff.2 fun h => ?_).symm; unfold validL at h; rw [List.all_eq_true] at h; have := h k (List.mem_range.2 hlt); rw [HQ.out] at this; cases this), r1⟩
          · obtain rfl : k = R := by omega
            have hxn : x = n := by have := HX.out; have := HNRC.out; omega
            have HVL := hide (show validL cs k C = true by unfold validL; rw [List.all_eq_true]; intro j hj; exact HRows.out j (List.mem_range.1 hj))
            subst hxn
            gi_wp2
            go_end0
            obtain ⟨o', ho'⟩ := end_ex (P := Tryd.prog) (pe := none) HI.out.2.1 (by rw [(HP.out _ _).2]; simp) (HP.out _ _).1
            refine ⟨_, _, ho', ?_⟩
            have hE := HI.out.put rfl o'
            have hB5 := putObj_box (o' := o') HBo.out HI.out.2.1 rfl
            clear ho'
            dsimp only
            refine hK _ _ ?_
            obtain ⟨WE, hWE⟩ : ∃ WE, wr.putObj (w.heap.size + 1 + 1 + 1 + 1 + 1) o' = WE := ⟨_, rfl⟩
            rw [hWE] at hE hB5 ⊢
            clear hWE
            have hc1 := hB5.cell
            have hf1 := hB5.frozen
            have HE := hide hE
            have HB5 := hide hB5
            clear hE hB5
            gi_wp2
            refine ⟨by simp, .inl ⟨_, _, rfl, run_takeDeferred (HE.out.set (g := w.heap.size + 1) (by omega) (by omega) 0 (.bool true)).2.2.1, ?_⟩⟩
            obtain ⟨r0, r1⟩ := (HE.out.set (g := w.heap.size + 1) (by omega) (by omega) 0 (.bool true)).fin (HB5.out.set _) (by omega)
            exact ⟨.bool true, by simp [results, Tryd.results26, go_sem, r0], ret_bG (by rw [HV.out, HVL.out]), r1⟩
end Go.Proofs.YtojjdckpbmjjdaaDoor
