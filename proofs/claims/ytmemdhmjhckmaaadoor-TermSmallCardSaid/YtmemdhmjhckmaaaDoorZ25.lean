/- Contract of grids.Rows: a range over slices.Chunk, a strings.Builder in each round. Strings. -/
import Derived.Test.YtmemdhmjhckmaaaDoorZ24
import Derived.Stop.RegionWithIn
namespace Go.Proofs.YtmemdhmjhckmaaaDoor
open Go.RowKit Go.Shelf
set_option maxRecDepth 100000
attribute [local go_sem] Oper.semAt_some

theorem ret_strG {a b : ByteArray} (h : a = b) : Ending.returned (.string a) = .returned (.string b) := by rw [h]
theorem gput_any (r : Int) (w : World) : Calls Tryd.prog 19 #[.int .i32 r] w fun e w' => e = .returned (.string (putS r)) ∧ w = w' := by
  have hv : Utf8.valid r = Lib.validRune r := by
    rw [Bool.eq_iff_iff]
    simp only [Utf8.valid, Lib.validRune, Bool.or_eq_true, Bool.and_eq_true, decide_eq_true_eq]
    omega
  cases h : Lib.validRune r
  · have H := hide h
    have HP := hide (show putS r = ⟨#[]⟩ by rw [putS, hv, h]; rfl)
    clear h hv
    go_enter Tryd.func19, Tryd.ntmps19
    go_wp2_with (go_at_call 38; refine (Tryd.utf8_ValidRune r _).mono ?_; rw [H.out]; rintro e w1 ⟨rfl, rfl⟩)
    go_ret
    exact ⟨ret_strG HP.out.symm, rfl⟩
  · have H := hide h
    have HP := hide (show putS r = Utf8.encode r by rw [putS, hv, h]; rfl)
    clear h hv
    go_enter Tryd.func19, Tryd.ntmps19
    go_wp2_with (go_at_call 38; refine (Tryd.utf8_ValidRune r _).mono ?_; rw [H.out]; rintro e w1 ⟨rfl, rfl⟩)
    go_ret
    exact ⟨ret_strG HP.out.symm, rfl⟩
theorem bld_below {W W' : World} {B b : Nat} {T e : TypeId} {bs : List Value} (h : Lib.IsBuilder T e B b bs W) (hb : Below W.heap.size W W') : Lib.IsBuilder T e B b bs W' := by
  have key : ∀ p, Lib.BuilderAt T e B b p bs W → Lib.BuilderAt T e B b p bs W' := by
    rintro p ⟨h0, v, hk, ⟨hl, hown⟩, hne⟩
    refine ⟨h0, v, (hb.block b (Array.getElem?_eq_some_iff.1 hk).1).trans hk, ⟨hl, ?_⟩, hne⟩
    rcases hown with h1 | ⟨g, cap, cur, rfl, hg, hh, q⟩
    · exact .inl h1
    · exact .inr ⟨g, cap, cur, rfl, hg, (hb.block g (Array.getElem?_eq_some_iff.1 hh).1).trans hh, q⟩
  rcases h with h | h
  · exact .inl (key _ h)
  · exact .inr (key _ h)
theorem ChI.under {w0 W W' : World} {B D : Nat} {o : Obj} {v : Value} {c : Int} (h : ChI w0 B D o v c W) (hb : Below (D + 1 + 1 + 1 + 1) W W') : ChI w0 B D o v c W' := by
  obtain ⟨h0, h1, h2, h3, h4, h5⟩ := h
  exact ⟨h0, (hb.block _ (by omega)).trans h1, (hb.block _ (by omega)).trans h2, (hb.block _ (by omega)).trans h3, (hb.block _ (by omega)).trans h4, h5.trans (hb.mono (by omega))⟩
/-- One string is hung on: as one step of a region that draws its order, in a round of a range over a function. -/
theorem stepIn_app {l n : Nat} {ops : Array Oper} {op : Oper} {a : Act} {W w' : World} {K : Act → World → Prop} {Q : Exit → Act → World → Prop} {X : Prop} (hgd : op.guard = none) (s x : Operand)
    (hop : op.op = Op.call { callee := Callee.builtin Builtin.append, args := #[s, x], argTypes := #[43, 43] }) (v xv v' : Value) (hs : a.eval s = v) (hx : a.eval x = xv)
    (hrun : (Builtin.append_ #[43, 43] op.type #[v, xv]).run Tryd.prog W = .ok v' w') (hK : K (a.put op.dst v') w') :
    if Region.wanted op (yielded ops a.tmps) = true then Oper.wpIn (Fence.wide.inRound l) n Tryd.prog op a W K Q else X := by
  have hw : Region.wanted op (yielded ops a.tmps) = true := by simp [Region.wanted, hgd]
  rw [if_pos hw]
  unfold Oper.wpIn
  refine ⟨fun _ _ => trivial, ?_⟩
  rw [Oper.semAt_eq _ _ _ (fun c h => by rw [hop] at h; cases h)]
  simp [execOp, hop, resolve, invoke, builtin, hs, hx, hrun, Result.andThen]
  exact hK
theorem bytes_app (l m : List UInt8) : Lib.byteCells l ++ Lib.byteCells m = Lib.byteCells (l ++ m) := by simp [Lib.byteCells]
set_option maxRecDepth 100000 in
set_option maxHeartbeats 4000000 in
theorem rows_any (f : Fr) (v : Value) (w : World) (h : FrAt w v f) (hT : WTabs w) :
    Calls Tryd.prog 20 #[v] w fun e w' => ∃ v', e = .returned v' ∧ OwnS w' w.heap.size v' (rowsF f) ∧ Below w.heap.size w w' := by
  obtain ⟨A, cap, rfl, hc, hcap, hcl⟩ := h
  obtain ⟨rows, cols, cs, row, col⟩ := f
  obtain ⟨n, hn⟩ : ∃ n, cs.length = n := ⟨_, rfl⟩
  have HFR := hide (show ∀ W, Below w.heap.size w W → FrAt W (frV ⟨rows, cols, cs, row, col⟩ A n cap) ⟨rows, cols, cs, row, col⟩ from fun W hW => ⟨A, cap, by dsimp only; rw [hn], hc, hcap, hcl.below hW⟩)
  have HN := hide hn
  have HCL := hide hcl
  have HT := hide hT
  unfold frV at HFR ⊢
  dsimp only at hc HFR HCL ⊢
  rw [hn] at hc ⊢
  clear hcl hn hT
  have HK := hide (Blk.new w 35 (frCells rows cols (.slice A n cap) row col))
  have HB0 := hide (show Below w.heap.size w (w.alloc (.cells (frCells rows cols (.slice A n cap) row col).toArray 35)) from (Below.refl _ _).alloc (Nat.le_refl _) _)
  refine (callsIn_wide (n := 9)).1 ?_
  refine callsIn_of_wp_marks Tryd.func20 rfl trivial ?_
  simp only [Tryd.ntmps20, List.size_toArray, List.length_cons, List.length_nil, Nat.reduceAdd, Nat.reduceSub, Array.replicate_succ, Array.replicate_zero, List.push_toArray, List.append_toArray, List.nil_append, List.cons_append]
  by_cases hv : validF ⟨rows, cols, cs, row, col⟩ = true
  case neg =>
    have hv0 : validF ⟨rows, cols, cs, row, col⟩ = false := by simpa using hv
    have HV := hide hv0
    have HP := hide (rowsF_bad hv0)
    clear hv hv0
    gi_wp2_with (first | (refine ⟨trivial, ?_⟩; gi_at_call 24; refine (callsIn_wide.2 (valid_is ⟨rows, cols, cs, row, col⟩ _ HV.out _ _ (HFR.out _ HB0.out) (HT.out.below HB0.out))).mono ?_; rintro e w1 ⟨rfl, hb1⟩; have HB1 := hide (HB0.out.trans (hb1.mono HB0.out.size)); clear hb1) | fail)
    exact ⟨.slice none 0 0, by simp [results, Tryd.results20, go_sem], _, rfl, by rw [HP.out]; exact OwnS.nil _ _, HB1.out⟩
  have HV := hide hv
  have HPF := hide (rowsF_ok hv)
  obtain ⟨R, C, hR, hC, h1, h2, h3, h4, hL, -⟩ := valid_facts hv
  dsimp only at hR hC hL
  subst hR hC
  dsimp only at HPF
  rw [Int.toNat_natCast, Int.toNat_natCast] at HPF
  obtain ⟨b, o, hA, -⟩ := ClsAt.at (j := 0) HCL.out (List.getElem?_eq_getElem (show 0 < cs.length by rw [hL]; have := (size_small h1 h2 h3 h4).1; omega))
  subst hA
  have hnRC : n = R * C := by rw [← HN.out]; exact hL
  have HNRC := hide hnRC
  obtain ⟨-, hs2⟩ := size_small h1 h2 h3 h4
  rw [← hnRC] at hs2
  obtain ⟨i0, hinf, hz0, hz1, hz2⟩ := info_parts info_strG
  clear hv hL hnRC
  gi_wp2_with (first
    | (refine ⟨trivial, ?_⟩; gi_at_call 24; refine (callsIn_wide.2 (valid_is ⟨R, C, cs, row, col⟩ _ HV.out _ _ (HFR.out _ HB0.out) (HT.out.below HB0.out))).mono ?_; rintro e w1 ⟨rfl, hb1⟩; have HK1 := hide (HK.out.below hb1); have HB1 := hide (HB0.out.trans (hb1.mono HB0.out.size)); have hz9 := HK1.out.lt; have HK2 := hide (HK1.out.alloc (.cells #[.slice none 0 0] 43)); obtain ⟨k0, k1, k2, k3, k4, kf⟩ := fr_reads HK2.out; clear hb1)
    | (refine ⟨trivial, ?_⟩; gi_at_call 39; refine (callsIn_wide.2 (chunk_any _ _ _ _ (by omega) _)).mono ?_; rintro e w' ⟨rfl, rfl⟩)
    | fail)
  rename_i K hK
  obtain ⟨W2, hW2⟩ : ∃ W2, W2 = w1.alloc (.cells #[.slice none 0 0] 43) := ⟨_, rfl⟩
  have hsz2 : W2.heap.size = w1.heap.size + 1 := by rw [hW2]; simp
  have HB2 := hide (show Below w.heap.size w W2 by rw [hW2]; exact HB1.out.alloc HB1.out.size _)
  have HBX := hide (show Boxed W2 w1.heap.size 43 (.slice none 0 0) by rw [hW2]; exact Boxed.new w1 43 (.slice none 0 0))
  rw [← hW2]
  clear hW2 HB0 k0 k1 k2 k3 k4 kf HK HK1 HK2
  refine range_open rfl (by omega) (gf := 71) (lb := #[.pointer (some ⟨w1.heap.size + 1, 0, none⟩), .pointer (some ⟨w1.heap.size + 1 + 1, 0, none⟩)]) rfl trivial (enters_of Tryd.func71 (by kernel_rfl) rfl) ?_
  intro fn rec hfn hrec
  have HREC := hide hrec
  have HP := hide (show ∀ st pe, (rec st pe).pending = pe ∧ (rec st pe).state = st from fun st pe => by rw [hrec]; exact ⟨rfl, rfl⟩)
  have HRR := hide (show ∀ st pe st' pe', { rec st pe with state := st', pending := pe' } = rec st' pe' from fun st pe st' pe' => by rw [hrec])
  clear hrec
  refine callsIn_of_wp Tryd.func71 rfl trivial ?_
  simp only [Tryd.ntmps71, List.size_toArray, List.length_cons, List.length_nil, Nat.reduceAdd, Nat.reduceSub, Array.replicate_succ, Array.replicate_zero, List.push_toArray, List.append_toArray, List.nil_append, List.cons_append]
  have HI0 := hide (ChI.start W2 (.slice (some ⟨b, o, none⟩) n cap) C (.loop (rec .ready none)) w w.heap.size HB2.out (by omega))
  rw [hsz2] at HI0
  have HBX0 := hide (show Boxed ((((W2.alloc (.cells #[.slice (some ⟨b, o, none⟩) n cap] 33)).alloc (.cells #[.int .i64 C] 3)).alloc (.deferred (some []))).alloc (.loop (rec .ready none))) w1.heap.size 43 (.slice none 0 0) from (((HBX.out.alloc _).alloc _).alloc _).alloc _)
  gi_wp2
  gi_loopw [4] (fun iv wr => ∃ (k x : Nat) (A : Option Addr) (c : Nat), iv = .int .i64 x ∧ Hid (x = k * C) ∧ k ≤ R ∧ x ≤ n ∧ c ≤ maxLen ∧ Hid (ChI w w.heap.size (w1.heap.size + 1) (.loop (rec .ready none)) (.slice (some ⟨b, o, none⟩) n cap) C wr) ∧ Hid (Boxed wr w1.heap.size 43 (.slice A k c)) ∧ Hid (OwnS wr (w1.heap.size + 1 + 1 + 1 + 1 + 1) (.slice A k c) (rowsTo cs C k))) (fun iv _ => n - (intOf iv).toNat)
  case atStart => exact ⟨0, 0, none, 0, rfl, hide (by simp), by omega, by omega, by unfold maxLen; omega, HI0, HBX0, hide (OwnS.nil _ _)⟩
  case round =>
    clear HI0 HBX0
    obtain ⟨k, x, A, c, rfl, HX, hk, hx, hcm, HI, HBo, HOS⟩ := hrel
    have hcs := HI.out.2.2.2.1.cell
    have hcz := HI.out.2.2.2.2.1.cell
    by_cases hlt : k < R
    · have hxC : x + C ≤ n := by
        have h1 : (k + 1) * C ≤ R * C := Nat.mul_le_mul_right _ hlt
        have h2 := HX.out
        have h3 := HNRC.out
        rw [Nat.add_mul, Nat.one_mul] at h1
        omega
      have hlt2 : x < n := by omega
      clear hk hx
      have hmin : min (C : Int) ((n - x : Nat) : Int) = (C : Int) := by omega
      have hto : ((x : Int) + (C : Int)).toNat - x = C := by omega
      gi_wp2
      gi_region
      have hI2 := HI.out.drewN 1
      have hB2 := HBo.out
      have hO2 := HOS.out
      obtain ⟨W0, hW0⟩ : ∃ W0, wr.drew = W0 := ⟨_, rfl⟩
      rw [show wr.drewN 1 = W0 from hW0] at hI2
      replace hB2 : Boxed W0 w1.heap.size 43 (.slice A k c) := by rw [← hW0]; exact hB2
      replace hO2 : OwnS W0 (w1.heap.size + 1 + 1 + 1 + 1 + 1) (.slice A k c) (rowsTo cs C k) := by rw [← hW0]; exact hO2
      rw [hW0]
      have hcs := hI2.2.2.2.1.cell
      have hcz := hI2.2.2.2.2.1.cell
      have HI2 := hide hI2
      have HO2 := hide hO2
      have hy := fun u => run_yield (P := Tryd.prog) (args := #[u]) hI2.2.1 (by rw [HREC.out]; rfl)
      clear hI2 hW0 hO2
      gi_wp2
      clear hmin hto
      have HSL := hide (show ∀ W, Below w.heap.size w W → ClsAt W (some ⟨b, o + x * 6, none⟩) (rowL cs C k) from fun W hW => by
        have := (show ClsAt W _ _ from HCL.out.below hW).sub (k * C) C
        rw [← HX.out] at this
        unfold rowL
        rw [← HX.out]
        exact this)
      have HSLN := hide (show (rowL cs C k).length = C from rowL_len (rows := R) (by rw [HN.out]; exact HNRC.out) hlt)
      refine round_at (a1 := ?_) HI2.out.2.1 (HP.out _ _).2 (by rw [HREC.out]; exact hfn) ?_ ?_
      rotate_left
      · intro K9 hK9
        rw [HREC.out]
        gi_wp2
        exact hK9
      · rw [rec_state HRR.out HP.out]
        have hI3 := HI2.out.put rfl (.loop (rec .busy none))
        have hB3 : Boxed (W0.putObj (w1.heap.size + 1 + 1 + 1 + 1) (.loop (rec .busy none))) w1.heap.size 43 (.slice A k c) := putObj_box hB2 HI2.out.2.1 rfl
        have hO3 : OwnS (W0.putObj (w1.heap.size + 1 + 1 + 1 + 1) (.loop (rec .busy none))) (w1.heap.size + 1 + 1 + 1 + 1 + 1) (.slice A k c) (rowsTo cs C k) := HO2.out.putObj (Nat.lt_succ_self _) _
        obtain ⟨WB, hWB⟩ : ∃ WB, W0.putObj (w1.heap.size + 1 + 1 + 1 + 1) (.loop (rec .busy none)) = WB := ⟨_, rfl⟩
        rw [hWB] at hI3 hB3 hO3 ⊢
        have HI3 := hide hI3
        have HB3 := hide hB3
        have HO3 := hide hO3
        clear hI3 hy hWB hB3 hO3
        rw [HREC.out]
        gi_wp2
        have hFB := Lib.fresh_isBuilder 98 5 WB
        have HBD0 := hide (show Lib.IsBuilder 98 5 WB.heap.size WB.heap.size (Lib.byteCells (shB ((rowL cs C k).take 0))) (WB.alloc (.cells #[.pointer none, .slice none 0 0] 98)) from hFB)
        have HBB0 := hide (show Below WB.heap.size WB (WB.alloc (.cells #[.pointer none, .slice none 0 0] 98)) from (Below.refl _ _).alloc (Nat.le_refl _) _)
        clear hFB hcs hcz
        gi_loopw [19] (fun iv wr => ∃ j : Nat, iv = .int .i64 j ∧ j ≤ C ∧ Hid (Lib.IsBuilder 98 5 WB.heap.size WB.heap.size (Lib.byteCells (shB ((rowL cs C k).take j))) wr) ∧ Hid (Below WB.heap.size WB wr)) (fun iv _ => C - (intOf iv).toNat)
        case atStart => exact ⟨0, rfl, by omega, HBD0, HBB0⟩
        case round =>
          clear HBD0 HBB0
          obtain ⟨j, rfl, hj, HBD, HBQ⟩ := hrel
          by_cases hjC : j < C
          · obtain ⟨X, hX⟩ : ∃ X, (rowL cs C k)[j]? = some X := ⟨_, List.getElem?_eq_getElem (by rw [HSLN.out]; exact hjC)⟩
            have HST := hide (shB_step hX)
            have HLE := hide (show (shB ((rowL cs C k).take j)).length ≤ 4 * j by have := shB_le ((rowL cs C k).take j); rw [List.length_take] at this; omega)
            have hbq : Below w.heap.size w wr := HI3.out.2.2.2.2.2.trans (HBQ.out.mono (by have := HI3.out.2.2.2.2.2.size; exact this))
            obtain ⟨x0, x1, x2, x3, x4, x5⟩ := (HSL.out wr hbq).get hX
            clear hX hbq
            obtain ⟨xr, xw, xf, xb, xu, xi⟩ := X
            dsimp only at x0 x1 x2 x3 x4 x5 HST
            have HAL := hide ((Below.refl wr.heap.size wr).alloc (Nat.le_refl _) (.cells #[.int .i32 xr, .int .i64 xw, .int .i64 xf, .bool xb, .bool xu, .bool xi] 82))
            have HBD1 := hide (bld_below HBD.out HAL.out)
            have HBQ1 := hide (HBQ.out.trans (HAL.out.mono HBQ.out.size))
            by_cases hw0 : 0 < xw
            · rw [if_pos hw0] at HST
              have hpl := putS_le xr
              have HPUT := hide (fun W => gput_any xr W)
              obtain ⟨t, ht⟩ : ∃ t, putS xr = t := ⟨_, rfl⟩
              rw [ht] at HST hpl HPUT
              clear ht
              gi_wp2_with (first
                | (refine ⟨trivial, ?_⟩; gi_at_call 19; refine (CallsIn.inRound _ (callsIn_wide.2 (HPUT.out _))).mono ?_; rintro e w' ⟨rfl, rfl⟩)
                | (refine ⟨trivial, ?_⟩; gi_at_call 40; refine (CallsIn.inRound _ (callsIn_wide.2 (write_any WB.heap.size WB.heap.size _ t _ HBD1.out (by rw [Lib.byteCells_length]; have := HLE.out; omega) HBQ1.out.size))).mono ?_; rintro e w3 ⟨rfl, hbd, hb3⟩; have HBD3 := hide hbd; have HBQ3 := hide (HBQ1.out.trans hb3); clear hbd hb3)
                | fail)
              go_roundw
              case rel => exact ⟨j + 1, by go_num, by omega, hide (.inr (by rw [HST.out, ← bytes_app]; exact HBD3.out)), HBQ3⟩
              case measure => simp [intOf]; omega
            · rw [if_neg hw0, List.append_nil] at HST
              gi_wp2
              go_roundw
              case rel => exact ⟨j + 1, by go_num, by omega, hide (by rw [HST.out]; exact HBD1.out), HBQ1⟩
              case measure => simp [intOf]; omega
          · obtain rfl : C = j := by omega
            have HBD2 := hide (show Lib.IsBuilder 98 5 WB.heap.size WB.heap.size (Lib.byteCells (shB (rowL cs C k))) wr by have := HBD.out; rw [List.take_of_length_le (by rw [HSLN.out]; exact Nat.le_refl _)] at this; exact this)
            have hI4 := HI3.out.below HBQ.out
            have hB4 : Boxed wr w1.heap.size 43 (.slice A k c) := (HBQ.out.block _ HB3.out.lt).trans HB3.out
            have HO4 := hide (HO3.out.below HBQ.out)
            have hcB := hB4.cell
            have hfB := hB4.frozen
            have HI4 := hide hI4
            have HB4 := hide hB4
            clear hI4 hB4 HBD
            gi_wp2
            have HROW := hide (show (⟨(shB (rowL cs C k)).toArray⟩ : ByteArray) = rowS cs C k from rfl)
            refine wpIn_region_any (by kernel_rfl) ?_
            change wpAnyIn _ _ _ _ _ _ _ _ _ (World.drew _)
            refine wpAnyIn_ready (rs := [0, 1]) (by kernel_rfl) (by simp) ?_
            refine AllReadyIn.cons rfl (fun K' hK' => ?_) (AllReadyIn.cons rfl (fun K' hK' => ?_) AllReadyIn.nil)
            · go_simp
              refine hK' _ _ ?_
              clear hK' K'
              refine wpAnyIn_ready (rs := [1]) (by kernel_rfl) (by simp) ?_
              refine AllReadyIn.cons rfl (fun K' hK' => ?_) AllReadyIn.nil
              go_simp
              gi_wp2_with (first | (refine ⟨trivial, ?_⟩; gi_at_call 41; refine (CallsIn.inRound _ (callsIn_wide.2 (Tryd.Builder_String_any WB.heap.size WB.heap.size (shB (rowL cs C k)) _ (bld_below HBD2.out (Below.refl _ _).drew) HBQ.out.size))).mono ?_; rintro e w5 ⟨rfl, hb5⟩; have HBQ5 := hide (HBQ.out.drew.trans hb5); have hB5 : Boxed w5 w1.heap.size 43 (.slice A k c) := (HBQ5.out.block _ HB3.out.lt).trans HB3.out; have hcB5 := hB5.cell; have HB5 := hide hB5; clear hb5 hB5) | fail)
              refine wpAnyIn_ready (rs := [2]) (by kernel_rfl) (by simp) ?_
              refine AllReadyIn.cons rfl (fun K' hK' => ?_) AllReadyIn.nil
              go_simp
              refine hK' _ _ ?_
              clear hK' K'
              have hbs : w1.heap.size + 1 + 1 + 1 + 1 + 1 ≤ WB.heap.size := (Array.getElem?_eq_some_iff.1 HI3.out.2.1).1
              have HS6 := hide ((HO3.out.below HBQ5.out).below ((Below.refl _ _).alloc (Nat.le_refl _) (.cells #[.string ⟨(shB (rowL cs C k)).toArray⟩] 9)))
              obtain ⟨v7, w7, hrun, ho7, hb7⟩ := app_str (b := w5.heap.size) (c := 1) (s := rowS cs C k) HS6.out (by simp [rowS]) (by rw [rowsTo_len]; omega) (by have := HBQ5.out.size; simp; omega) 43
              obtain ⟨A7, c7, rfl, hc7, hm7⟩ := ho7.formL (n := k + 1) (by rw [List.length_append, rowsTo_len]; rfl)
              have hI7 := ((HI3.out.below HBQ5.out).below ((Below.refl _ _).alloc (Nat.le_refl _) (.cells #[.string ⟨(shB (rowL cs C k)).toArray⟩] 9))).under hb7
              have hB7 : Boxed w7 w1.heap.size 43 (.slice A k c) := (hb7.block _ (by omega)).trans (HB5.out.alloc _)
              have hcB7 := hB7.cell
              have hfB7 := hB7.frozen
              have HI7 := hide hI7
              have HB7 := hide hB7
              have HO7 := hide ho7
              clear hI7 hB7 ho7 hb7
              refine wpAnyIn_ready (rs := [3]) (by kernel_rfl) (by simp) ?_
              refine AllReadyIn.cons rfl (fun K' hK' => ?_) AllReadyIn.nil
              refine stepIn_app rfl (.tmp 31) (.tmp 33) rfl _ _ _ (by rfl) (by rfl) hrun ?_
              refine hK' _ _ ?_
              clear hK' K' hrun
              refine wpAnyIn_ready (rs := [4]) (by kernel_rfl) (by simp) ?_
              refine AllReadyIn.cons rfl (fun K' hK' => ?_) AllReadyIn.nil
              go_simp
              refine hK' _ _ ?_
              clear hK' K'
              refine wpAnyIn_done (by kernel_rfl) ?_ _
              have hsz9 := HB1.out.size
              have hI8 := HI7.out.set (g := w1.heap.size) hsz9 (Nat.lt_succ_self _) 0 (.slice A7 (k + 1) c7)
              have hB8 : Boxed (w7.setCell ⟨w1.heap.size, 0, none⟩ (.slice A7 (k + 1) c7)) w1.heap.size 43 (.slice A7 (k + 1) c7) := HB7.out.set _
              have hO8 := HO7.out.low (p := ⟨w1.heap.size, 0, none⟩) (show w1.heap.size < w1.heap.size + 1 + 1 + 1 + 1 + 1 by omega) (.slice A7 (k + 1) c7)
              refine ⟨_, _, round_end HRR.out hI8.2.1 none, ?_⟩
              have hI9 := hI8.put rfl (.loop (rec .ready none))
              have hB9 := putObj_box (o' := .loop (rec .ready none)) hB8 hI8.2.1 rfl
              have hO9 := hO8.putObj (Nat.lt_succ_self _) (.loop (rec .ready none))
              simp only [Option.isNone_none, if_true]
              obtain ⟨WF, hWF⟩ : ∃ WF, (w7.setCell ⟨w1.heap.size, 0, none⟩ (.slice A7 (k + 1) c7)).putObj (w1.heap.size + 1 + 1 + 1 + 1) (.loop (rec .ready none)) = WF := ⟨_, rfl⟩
              rw [hWF] at hI9 hB9 hO9 ⊢
              have hcz2 := hI9.2.2.2.2.1.cell
              have HI9 := hide hI9
              have HB9 := hide hB9
              have HO9 := hide hO9
              clear hI8 hB8 hO8 hWF hI9 hB9 hO9
              gi_wp2
              go_roundw
              case rel => exact ⟨k + 1, x + C, A7, c7, by go_num, hide (by have := HX.out; rw [Nat.add_mul, Nat.one_mul]; omega), by omega, by omega, hm7, HI9, HB9, hide (by rw [rowsTo_step]; exact HO9.out)⟩
              case measure => simp [intOf]; omega
            · go_simp
              gi_wp2_with (first | (refine ⟨trivial, ?_⟩; gi_at_call 41; refine (CallsIn.inRound _ (callsIn_wide.2 (Tryd.Builder_String_any WB.heap.size WB.heap.size (shB (rowL cs C k)) _ (bld_below HBD2.out (Below.refl _ _).drew) HBQ.out.size))).mono ?_; rintro e w5 ⟨rfl, hb5⟩; have HBQ5 := hide (HBQ.out.drew.trans hb5); have hB5 : Boxed w5 w1.heap.size 43 (.slice A k c) := (HBQ5.out.block _ HB3.out.lt).trans HB3.out; have hcB5 := hB5.cell; have HB5 := hide hB5; clear hb5 hB5) | fail)
              refine wpAnyIn_ready (rs := [0, 2]) (by kernel_rfl) (by simp) ?_
              refine AllReadyIn.cons rfl (fun K' hK' => ?_) (AllReadyIn.cons rfl (fun K' hK' => ?_) AllReadyIn.nil)
              · go_simp
                refine hK' _ _ ?_
                clear hK' K'
                refine wpAnyIn_ready (rs := [2]) (by kernel_rfl) (by simp) ?_
                refine AllReadyIn.cons rfl (fun K' hK' => ?_) AllReadyIn.nil
                go_simp
                refine hK' _ _ ?_
                clear hK' K'
                have hbs : w1.heap.size + 1 + 1 + 1 + 1 + 1 ≤ WB.heap.size := (Array.getElem?_eq_some_iff.1 HI3.out.2.1).1
                have HS6 := hide ((HO3.out.below HBQ5.out).below ((Below.refl _ _).alloc (Nat.le_refl _) (.cells #[.string ⟨(shB (rowL cs C k)).toArray⟩] 9)))
                obtain ⟨v7, w7, hrun, ho7, hb7⟩ := app_str (b := w5.heap.size) (c := 1) (s := rowS cs C k) HS6.out (by simp [rowS]) (by rw [rowsTo_len]; omega) (by have := HBQ5.out.size; simp; omega) 43
                obtain ⟨A7, c7, rfl, hc7, hm7⟩ := ho7.formL (n := k + 1) (by rw [List.length_append, rowsTo_len]; rfl)
                have hI7 := ((HI3.out.below HBQ5.out).below ((Below.refl _ _).alloc (Nat.le_refl _) (.cells #[.string ⟨(shB (rowL cs C k)).toArray⟩] 9))).under hb7
                have hB7 : Boxed w7 w1.heap.size 43 (.slice A k c) := (hb7.block _ (by omega)).trans (HB5.out.alloc _)
                have hcB7 := hB7.cell
                have hfB7 := hB7.frozen
                have HI7 := hide hI7
                have HB7 := hide hB7
                have HO7 := hide ho7
                clear hI7 hB7 ho7 hb7
                refine wpAnyIn_ready (rs := [3]) (by kernel_rfl) (by simp) ?_
                refine AllReadyIn.cons rfl (fun K' hK' => ?_) AllReadyIn.nil
                refine stepIn_app rfl (.tmp 31) (.tmp 33) rfl _ _ _ (by rfl) (by rfl) hrun ?_
                refine hK' _ _ ?_
                clear hK' K' hrun
                refine wpAnyIn_ready (rs := [4]) (by kernel_rfl) (by simp) ?_
                refine AllReadyIn.cons rfl (fun K' hK' => ?_) AllReadyIn.nil
                go_simp
                refine hK' _ _ ?_
                clear hK' K'
                refine wpAnyIn_done (by kernel_rfl) ?_ _
                have hsz9 := HB1.out.size
                have hI8 := HI7.out.set (g := w1.heap.size) hsz9 (Nat.lt_succ_self _) 0 (.slice A7 (k + 1) c7)
                have hB8 : Boxed (w7.setCell ⟨w1.heap.size, 0, none⟩ (.slice A7 (k + 1) c7)) w1.heap.size 43 (.slice A7 (k + 1) c7) := HB7.out.set _
                have hO8 := HO7.out.low (p := ⟨w1.heap.size, 0, none⟩) (show w1.heap.size < w1.heap.size + 1 + 1 + 1 + 1 + 1 by omega) (.slice A7 (k + 1) c7)
                refine ⟨_, _, round_end HRR.out hI8.2.1 none, ?_⟩
                have hI9 := hI8.put rfl (.loop (rec .ready none))
                have hB9 := putObj_box (o' := .loop (rec .ready none)) hB8 hI8.2.1 rfl
                have hO9 := hO8.putObj (Nat.lt_succ_self _) (.loop (rec .ready none))
                simp only [Option.isNone_none, if_true]
                obtain ⟨WF, hWF⟩ : ∃ WF, (w7.setCell ⟨w1.heap.size, 0, none⟩ (.slice A7 (k + 1) c7)).putObj (w1.heap.size + 1 + 1 + 1 + 1) (.loop (rec .ready none)) = WF := ⟨_, rfl⟩
                rw [hWF] at hI9 hB9 hO9 ⊢
                have hcz2 := hI9.2.2.2.2.1.cell
                have HI9 := hide hI9
                have HB9 := hide hB9
                have HO9 := hide hO9
                clear hI8 hB8 hO8 hWF hI9 hB9 hO9
                gi_wp2
                go_roundw
                case rel => exact ⟨k + 1, x + C, A7, c7, by go_num, hide (by have := HX.out; rw [Nat.add_mul, Nat.one_mul]; omega), by omega, by omega, hm7, HI9, HB9, hide (by rw [rowsTo_step]; exact HO9.out)⟩
                case measure => simp [intOf]; omega
              · go_simp
                refine hK' _ _ ?_
                clear hK' K'
                have hcB6 := (HB5.out.alloc (.cells #[.string ⟨(shB (rowL cs C k)).toArray⟩] 9)).cell
                refine wpAnyIn_ready (rs := [0]) (by kernel_rfl) (by simp) ?_
                refine AllReadyIn.cons rfl (fun K' hK' => ?_) AllReadyIn.nil
                go_simp
                refine hK' _ _ ?_
                clear hK' K'
                have hbs : w1.heap.size + 1 + 1 + 1 + 1 + 1 ≤ WB.heap.size := (Array.getElem?_eq_some_iff.1 HI3.out.2.1).1
                have HS6 := hide ((HO3.out.below HBQ5.out).below ((Below.refl _ _).alloc (Nat.le_refl _) (.cells #[.string ⟨(shB (rowL cs C k)).toArray⟩] 9)))
                obtain ⟨v7, w7, hrun, ho7, hb7⟩ := app_str (b := w5.heap.size) (c := 1) (s := rowS cs C k) HS6.out (by simp [rowS]) (by rw [rowsTo_len]; omega) (by have := HBQ5.out.size; simp; omega) 43
                obtain ⟨A7, c7, rfl, hc7, hm7⟩ := ho7.formL (n := k + 1) (by rw [List.length_append, rowsTo_len]; rfl)
                have hI7 := ((HI3.out.below HBQ5.out).below ((Below.refl _ _).alloc (Nat.le_refl _) (.cells #[.string ⟨(shB (rowL cs C k)).toArray⟩] 9))).under hb7
                have hB7 : Boxed w7 w1.heap.size 43 (.slice A k c) := (hb7.block _ (by omega)).trans (HB5.out.alloc _)
                have hcB7 := hB7.cell
                have hfB7 := hB7.frozen
                have HI7 := hide hI7
                have HB7 := hide hB7
                have HO7 := hide ho7
                clear hI7 hB7 ho7 hb7
                refine wpAnyIn_ready (rs := [3]) (by kernel_rfl) (by simp) ?_
                refine AllReadyIn.cons rfl (fun K' hK' => ?_) AllReadyIn.nil
                refine stepIn_app rfl (.tmp 31) (.tmp 33) rfl _ _ _ (by rfl) (by rfl) hrun ?_
                refine hK' _ _ ?_
                clear hK' K' hrun
                refine wpAnyIn_ready (rs := [4]) (by kernel_rfl) (by simp) ?_
                refine AllReadyIn.cons rfl (fun K' hK' => ?_) AllReadyIn.nil
                go_simp
                refine hK' _ _ ?_
                clear hK' K'
                refine wpAnyIn_done (by kernel_rfl) ?_ _
                have hsz9 := HB1.out.size
                have hI8 := HI7.out.set (g := w1.heap.size) hsz9 (Nat.lt_succ_self _) 0 (.slice A7 (k + 1) c7)
                have hB8 : Boxed (w7.setCell ⟨w1.heap.size, 0, none⟩ (.slice A7 (k + 1) c7)) w1.heap.size 43 (.slice A7 (k + 1) c7) := HB7.out.set _
                have hO8 := HO7.out.low (p := ⟨w1.heap.size, 0, none⟩) (show w1.heap.size < w1.heap.size + 1 + 1 + 1 + 1 + 1 by omega) (.slice A7 (k + 1) c7)
                refine ⟨_, _, round_end HRR.out hI8.2.1 none, ?_⟩
                have hI9 := hI8.put rfl (.loop (rec .ready none))
                have hB9 := putObj_box (o' := .loop (rec .ready none)) hB8 hI8.2.1 rfl
                have hO9 := hO8.putObj (Nat.lt_succ_self _) (.loop (rec .ready none))
                simp only [Option.isNone_none, if_true]
                obtain ⟨WF, hWF⟩ : ∃ WF, (w7.setCell ⟨w1.heap.size, 0, none⟩ (.slice A7 (k + 1) c7)).putObj (w1.heap.size + 1 + 1 + 1 + 1) (.loop (rec .ready none)) = WF := ⟨_, rfl⟩
                rw [hWF] at hI9 hB9 hO9 ⊢
                have hcz2 := hI9.2.2.2.2.1.cell
                have HI9 := hide hI9
                have HB9 := hide hB9
                have HO9 := hide hO9
                clear hI8 hB8 hO8 hWF hI9 hB9 hO9
                gi_wp2
                go_roundw
                case rel => exact ⟨k + 1, x + C, A7, c7, by go_num, hide (by have := HX.out; rw [Nat.add_mul, Nat.one_mul]; omega), by omega, by omega, hm7, HI9, HB9, hide (by rw [rowsTo_step]; exact HO9.out)⟩
                case measure => simp [intOf]; omega
    · obtain rfl : k = R := by omega
      have hxn : x = n := by have := HX.out; have := HNRC.out; omega
      subst hxn
      gi_wp2
      go_end0
      obtain ⟨o', ho'⟩ := end_ex (P := Tryd.prog) (pe := none) HI.out.2.1 (by rw [(HP.out _ _).2]; simp) (HP.out _ _).1
      refine ⟨_, _, ho', ?_⟩
      have hE := HI.out.put rfl o'
      have hB5 := putObj_box (o' := o') HBo.out HI.out.2.1 rfl
      have hO5 := HOS.out.putObj (Nat.lt_succ_self _) o'
      clear ho'
      dsimp only
      refine hK _ _ ?_
      obtain ⟨WE, hWE⟩ : ∃ WE, wr.putObj (w1.heap.size + 1 + 1 + 1 + 1) o' = WE := ⟨_, rfl⟩
      rw [hWE] at hE hB5 hO5 ⊢
      clear hWE
      have hc1 := hB5.cell
      have HE := hide hE
      have HB5 := hide hB5
      have HO5 := hide hO5
      clear hE hB5 hO5
      gi_wp2
      refine ⟨by simp, .inl ⟨_, _, rfl, run_takeDeferred HE.out.2.2.1, ?_⟩⟩
      obtain ⟨r0, r1⟩ := HE.out.fin HB5.out (by omega)
      exact ⟨.slice A k c, by simp [results, Tryd.results20, go_sem], _, rfl, by rw [HPF.out]; exact (HO5.out.putObj (by omega) _).mono (by have := HB1.out.size; omega), r1⟩
end Go.Proofs.YtmemdhmjhckmaaaDoor
namespace Go.Proofs.YtmemdhmjhckmaaaDoor
open Go.RowKit
set_option maxRecDepth 100000

/-- A slice that reads as strings. -/
def StrV (W : World) (v : Value) (L : List ByteArray) : Prop := ∃ A cap, v = .slice A L.length cap ∧ L.length ≤ 1000 ∧ ∀ j s, L[j]? = some s → ∃ b o, A = some ⟨b, o, none⟩ ∧ b < W.heap.size ∧ W.cell? ⟨b, o + j, none⟩ = some (.string s)
theorem StrV.below {w W : World} {v : Value} {L : List ByteArray} (h : StrV w v L) (hb : Below w.heap.size w W) : StrV W v L := by
  obtain ⟨A, cap, e, hl, h1⟩ := h
  refine ⟨A, cap, e, hl, fun j s hj => ?_⟩
  obtain ⟨b, o, e1, h2, h3⟩ := h1 j s hj
  exact ⟨b, o, e1, Nat.lt_of_lt_of_le h2 hb.size, kcG hb h3⟩
theorem OwnS.reads {W : World} {B : Nat} {v : Value} {L : List ByteArray} (h : OwnS W B v L) (hl : L.length ≤ 1000) : StrV W v L := by
  rcases h.2 with ⟨rfl, h0⟩ | ⟨g, cap, cur, rfl, hg, hh, q, qm, hsz, htk⟩
  · refine ⟨none, 0, by rw [h0], hl, fun j s hj => ?_⟩
    rw [List.length_eq_zero_iff.1 h0] at hj
    simp at hj
  · refine ⟨_, _, rfl, hl, fun j s hj => ⟨g, 0, rfl, (Array.getElem?_eq_some_iff.1 hh).1, ?_⟩⟩
    have hlt := (List.getElem?_eq_some_iff.1 hj).1
    have h1 : (cur.toList.take (L.length * 1))[j]? = some (.string s) := by
      rw [show cur.toList.take (L.length * 1) = L.map Value.string by simpa using htk, List.getElem?_map, hj]; rfl
    rw [List.getElem?_take_of_lt (by omega)] at h1
    have h2 : cur[j]? = some (.string s) := by simpa using h1
    simp [World.cell?, hh, h2]
theorem rowsF_le (f : Fr) : (rowsF f).length ≤ 1000 := by
  by_cases h : validF f = true
  · rw [rowsF_ok h, rowsTo_len]
    obtain ⟨R, C, hR, hC, h1, h2, -⟩ := valid_facts h
    omega
  · rw [rowsF_bad (by simpa using h)]; simp
theorem str_neq {s t : ByteArray} (h : ¬ s = t) : (s.toList == t.toList) = false := by
  rw [ByteArray.toList_eq, ByteArray.toList_eq]
  simp only [beq_eq_false_iff_ne, ne_eq]
  intro e
  apply h
  cases s; cases t
  simp at e
  rw [e]
set_option maxRecDepth 100000 in
set_option maxHeartbeats 1000000 in
theorem strings_any (L M : List ByteArray) (v v' : Value) (w : World) (h : StrV w v L) (h' : StrV w v' M) :
    Calls Tryd.prog 46 #[v, v'] w fun e w' => e = .returned (.bool (decide (L = M))) ∧ Below w.heap.size w w' := by
  obtain ⟨A, cap, rfl, hl, hc⟩ := h
  obtain ⟨A', cap', rfl, hl', hc'⟩ := h'
  obtain ⟨n, hn⟩ : ∃ n, L.length = n := ⟨_, rfl⟩
  obtain ⟨m, hm⟩ : ∃ m, M.length = m := ⟨_, rfl⟩
  rw [hn] at hl ⊢
  rw [hm] at hl' ⊢
  have HC := hide hc
  have HC' := hide hc'
  have HN := hide hn
  have HM := hide hm
  clear hc hc' hn hm
  by_cases hnm : n = m
  case neg =>
    have HV := hide (show decide (L = M) = false from decide_eq_false (fun e => hnm (by rw [← HN.out, ← HM.out, e])))
    have hz : ¬ (n : Int) = (m : Int) := by omega
    go_enter Tryd.func46, Tryd.ntmps46
    go_wp2
    go_ret
    exact ⟨ret_bG HV.out.symm, Below.refl _ _⟩
  subst hnm
  go_enter Tryd.func46, Tryd.ntmps46
  go_wp2
  go_loopw [5] (fun iv wr => ∃ i : Nat, iv = .int .i64 i ∧ i ≤ n ∧ Hid (∀ j, j < i → L[j]? = M[j]?) ∧ Hid (Below w.heap.size w wr)) (fun iv _ => n - (intOf iv).toNat)
  case atStart => exact ⟨0, rfl, by omega, hide (fun j hj => by omega), hide (Below.refl _ _)⟩
  case round =>
    obtain ⟨i, rfl, hi, HE, HB⟩ := hrel
    by_cases hlt : i < n
    · obtain ⟨s, hs⟩ : ∃ s, L[i]? = some s := ⟨_, List.getElem?_eq_getElem (show i < L.length by rw [HN.out]; exact hlt)⟩
      obtain ⟨t, ht⟩ : ∃ t, M[i]? = some t := ⟨_, List.getElem?_eq_getElem (show i < M.length by rw [HM.out]; exact hlt)⟩
      obtain ⟨b, o, rfl, b1, b2⟩ := HC.out i s hs
      obtain ⟨b', o', rfl, b1', b2'⟩ := HC'.out i t ht
      have c1 := (HB.out.cell (p := ⟨b, o + i, none⟩) b1).trans b2
      have c2 := (HB.out.cell (p := ⟨b', o' + i, none⟩) b1').trans b2'
      have HS := hide hs
      have HT := hide ht
      clear b1 b2 b1' b2' hs ht
      by_cases hst : s = t
      · subst hst
        go_wp2
        go_region
        all_goals go_wp2
        go_roundw
        case rel => exact ⟨i + 1, by go_num, by omega, hide (fun j hj => by rcases Nat.lt_succ_iff_lt_or_eq.1 hj with h | rfl; exact HE.out j h; rw [HS.out, HT.out]), hide (below_drewG HB.out 1)⟩
        case measure => simp [intOf]; omega
      · have HV := hide (show decide (L = M) = false from decide_eq_false (fun e => by have h1 := HS.out; rw [e, HT.out] at h1; exact hst (Option.some.inj h1).symm))
        have hst2 := str_neq hst
        go_wp2
        go_region
        all_goals go_wp2
        go_ret
        exact ⟨ret_bG HV.out.symm, below_drewG HB.out 1⟩
    · obtain rfl : i = n := by omega
      have HV := hide (show decide (L = M) = true from decide_eq_true (List.ext_getElem? fun j => by
        by_cases hj : j < i
        · exact HE.out j hj
        · rw [List.getElem?_eq_none (by rw [HN.out]; omega), List.getElem?_eq_none (by rw [HM.out]; omega)]))
      go_wp2
      go_ret
      exact ⟨ret_bG HV.out.symm, HB.out⟩
theorem str2_new (W : World) (s t : ByteArray) : StrV (W.alloc (.cells #[.string s, .string t] 9)) (.slice (some ⟨W.heap.size, 0, none⟩) 2 2) [s, t] := by
  refine ⟨_, 2, rfl, by simp, fun j u hj => ⟨W.heap.size, 0, rfl, by simp, ?_⟩⟩
  match j with
  | 0 => simp at hj; subst hj; simp
  | 1 => simp at hj; subst hj; simp
  | k + 2 => simp at hj
theorem StrV.drew {W : World} {v : Value} {L : List ByteArray} (h : StrV W v L) : StrV W.drew v L := h.below (Below.refl _ _).drew
theorem strings_same (L : List ByteArray) (v v' : Value) (w : World) (h : StrV w v L) (h' : StrV w v' L) :
    Calls Tryd.prog 46 #[v, v'] w fun e w' => e = .returned (.bool true) ∧ Below w.heap.size w w' := by
  have := strings_any L L v v' w h h'
  rw [decide_eq_true rfl] at this
  exact this
end Go.Proofs.YtmemdhmjhckmaaaDoor
