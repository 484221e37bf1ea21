/- Contract of places.First: a range over strings.Lines. -/
import Derived.Test.YtkmcfcpockpadaaRangef
import Derived.Test.YtkmcfcpockpadaaPprogl
namespace Go.Proofs.Ytkmcfcpockpadaa
open Go.RowKit Go.Shelf
attribute [local go_sem] Oper.semAt_some

theorem lines_any (s : ByteArray) (w : World) : Calls Try.prog 25 #[.string s] w fun e w' => e = .returned (.func (.func 35) #[] #[.pointer (some ⟨w.heap.size, 0, none⟩)]) ∧ w' = w.alloc (.cells #[.string s] 9) := by
  go_enter Try.func25, Try.ntmps25
  go_wp2
  go_ret
  exact ⟨rfl, rfl⟩

/-- Between two rounds. -/
def LnI (w0 : World) (B : Nat) (o : Obj) (l a : Int) (r : ByteArray) (W : World) : Prop :=
  W.heap[B + 1 + 1 + 1 + 1]? = some o ∧ W.heap[B + 1 + 1 + 1]? = some (.deferred (some [])) ∧ Boxed W B 3 (.int .i64 l) ∧ Boxed W (B + 1) 3 (.int .i64 a) ∧ Boxed W (B + 1 + 1) 9 (.string r) ∧ Below B w0 W
theorem LnI.set0 {w0 W : World} {B : Nat} {o : Obj} {l a : Int} {r : ByteArray} (h : LnI w0 B o l a r W) (x : Int) : LnI w0 B o x a r (W.setCell ⟨B, 0, none⟩ (.int .i64 x)) := by
  obtain ⟨h1, h2, h3, h4, h5, h6⟩ := h
  exact ⟨(Below.heap_setCell _ _ _ _ (by simp; try omega)).trans h1, (Below.heap_setCell _ _ _ _ (by simp; try omega)).trans h2, h3.set _, h4.other (by omega) _, h5.other (by omega) _, h6.setCell (p := ⟨B, 0, none⟩) (Nat.le_refl _) _⟩
theorem LnI.set1 {w0 W : World} {B : Nat} {o : Obj} {l a : Int} {r : ByteArray} (h : LnI w0 B o l a r W) (x : Int) : LnI w0 B o l x r (W.setCell ⟨B + 1, 0, none⟩ (.int .i64 x)) := by
  obtain ⟨h1, h2, h3, h4, h5, h6⟩ := h
  exact ⟨(Below.heap_setCell _ _ _ _ (by simp; try omega)).trans h1, (Below.heap_setCell _ _ _ _ (by simp; try omega)).trans h2, h3.other (by omega) _, h4.set _, h5.other (by omega) _, h6.setCell (p := ⟨B + 1, 0, none⟩) (by simp; try omega) _⟩
theorem LnI.set2 {w0 W : World} {B : Nat} {o : Obj} {l a : Int} {r : ByteArray} (h : LnI w0 B o l a r W) (x : ByteArray) : LnI w0 B o l a x (W.setCell ⟨B + 1 + 1, 0, none⟩ (.string x)) := by
  obtain ⟨h1, h2, h3, h4, h5, h6⟩ := h
  exact ⟨(Below.heap_setCell _ _ _ _ (by simp; try omega)).trans h1, (Below.heap_setCell _ _ _ _ (by simp; try omega)).trans h2, h3.other (by omega) _, h4.other (by omega) _, h5.set _, h6.setCell (p := ⟨B + 1 + 1, 0, none⟩) (by simp; try omega) _⟩
theorem LnI.drewN {w0 W : World} {B : Nat} {o : Obj} {l a : Int} {r : ByteArray} (h : LnI w0 B o l a r W) (k : Nat) : LnI w0 B o l a r (W.drewN k) :=
  ⟨h.1, h.2.1, h.2.2.1, h.2.2.2.1, h.2.2.2.2.1, ⟨h.2.2.2.2.2.os, h.2.2.2.2.2.tape, h.2.2.2.2.2.output, h.2.2.2.2.2.size, h.2.2.2.2.2.block⟩⟩
theorem LnI.put {w0 W : World} {B : Nat} {o : Obj} {l a : Int} {r : ByteArray} (h : LnI w0 B o l a r W) (ho : o.isCells = false) (o' : Obj) : LnI w0 B o' l a r (W.putObj (B + 1 + 1 + 1 + 1) o') := by
  obtain ⟨h1, h2, h3, h4, h5, h6⟩ := h
  have hlt := (Array.getElem?_eq_some_iff.1 h1).1
  exact ⟨World.putObj_heap_same hlt, (World.putObj_heap_other (by omega)).trans h2, putObj_box h3 h1 ho, putObj_box h4 h1 ho, putObj_box h5 h1 ho, h6.grown (grownBy_putObj' W (B + 1 + 1 + 1 + 1) o') (by omega) (fun k e => by cases e; omega)⟩
/-- How long what is left is. -/
def restN (B : Nat) (W : World) : Nat := match W.cell? ⟨B + 1 + 1, 0, none⟩ with | some (.string r) => r.size | _ => 0
theorem LnI.rest {w0 W : World} {B : Nat} {o : Obj} {l a : Int} {r : ByteArray} (h : LnI w0 B o l a r W) : restN B W = r.size := by
  unfold restN; rw [h.2.2.2.2.1.cell]

theorem suffix_lf (l : List UInt8) : Lib.hasSuffix l [10] = decide (l.getLast? = some 10) := by
  unfold Lib.hasSuffix List.isSuffixOf
  rw [List.getLast?_eq_head?_reverse]
  cases l.reverse with
  | nil => rfl
  | cons a t =>
    simp only [List.reverse_cons, List.reverse_nil, List.nil_append, List.isPrefixOf, Bool.and_true, List.head?_cons]
    rw [Bool.eq_iff_iff]
    simp
    exact eq_comm
theorem suffix_t (s : ByteArray) (a e : Nat) (h : a ≤ e) (he : e < s.size) (hl : lf s e = true) : Lib.hasSuffix (s.extract a (e + 1)).data.toList [10] = true := by
  rw [suffix_lf, lf_ext]
  simp only [decide_eq_true_eq]
  have h1 : e - a < (s.data.toList.drop a).length := by rw [List.length_drop, Array.length_toList]; show e - a < s.size - a; omega
  rw [show e + 1 - a = (e - a) + 1 by omega, List.take_succ_eq_append_getElem h1, List.getLast?_append]
  simp only [List.getLast?_singleton, Option.some_or, Option.some.injEq]
  rw [List.getElem_drop, ← lf_list s (a + (e - a)) (by omega), show a + (e - a) = e by omega]
  unfold lf at hl
  exact UInt8.toNat_inj.1 (by simpa using hl)
theorem suffix_f (s : ByteArray) (a : Nat) (hn : ∀ j, a ≤ j → j < s.size → lf s j = false) : Lib.hasSuffix (s.extract a s.size).data.toList [10] = false := by
  rw [suffix_lf, lf_ext]
  simp only [decide_eq_false_iff_not]
  intro h
  have h1 := List.mem_of_getLast? h
  obtain ⟨i, hi, e⟩ := List.getElem_of_mem h1
  rw [List.length_take, List.length_drop, Array.length_toList] at hi
  have hi' : a + i < s.size := by change i < min (s.size - a) (s.size - a) at hi; omega
  rw [List.getElem_take, List.getElem_drop, ← lf_list s (a + i) hi'] at e
  have := hn (a + i) (by omega) hi'
  unfold lf at this
  rw [e] at this
  cases this

theorem extract_two (s : ByteArray) (a b c e : Nat) : (s.extract a b).extract c e = s.extract (a + c) (min (a + e) b) := by
  have h : ((s.extract a b).extract c e).data = (s.extract (a + c) (min (a + e) b)).data := by
    rw [ByteArray.data_extract, ByteArray.data_extract, ByteArray.data_extract, Array.extract_extract]
  cases hx : (s.extract a b).extract c e with | mk d1 => cases hy : s.extract (a + c) (min (a + e) b) with | mk d2 => rw [hx, hy] at h; simpa using h
theorem idx_call (r : ByteArray) (x : Int) (hx : Lib.indexByte r.data.toList 10 = x) (w : World) : Calls Try.prog 30 #[.string r, .int .u8 10] w fun e w' => e = .returned (.int .i64 x) ∧ w = w' := by
  subst hx
  exact (Try.strings_IndexByte r 10 w).mono fun e w' ⟨h1, h2⟩ => ⟨h1, h2.symm⟩
theorem suf_call (r : ByteArray) (b : Bool) (hb : Lib.hasSuffix r.data.toList [10] = b) (hr : r.size ≤ 9223372036854775807) (w : World) : Calls Try.prog 26 #[.string r, .string ⟨#[10]⟩] w fun e w' => e = .returned (.bool b) ∧ w = w' := by
  subst hb
  exact (Try.strings_HasSuffix r ⟨#[10]⟩ w hr).mono fun e w' ⟨h1, h2⟩ => ⟨h1, h2.symm⟩
set_option maxRecDepth 100000 in
set_option maxHeartbeats 4000000 in
theorem first_any (s : ByteArray) (L : Int) (w : World) (hs : s.size ≤ 1048576) (hL : L ≤ 9223372036854775807) (hL0 : -9223372036854775808 ≤ L) : Calls Try.prog 10 #[.string s, .int .i64 L] w fun e w' => e = .returned (.int .i64 (fsP s L.toNat)) ∧ Below w.heap.size w w' := by
  refine (callsIn_wide (n := 9)).1 ?_
  refine callsIn_of_wp_marks Try.func10 rfl trivial ?_
  simp only [Try.ntmps10, List.size_toArray, List.length_cons, List.length_nil, Nat.reduceAdd, Nat.reduceSub, Array.replicate_succ, Array.replicate_zero, List.push_toArray, List.append_toArray, List.nil_append, List.cons_append]
  gi_wp2_with (refine ⟨trivial, ?_⟩; gi_at_call 25; refine (callsIn_wide.2 (lines_any s _)).mono ?_; rintro e w' ⟨rfl, rfl⟩)
  rename_i Q' K hK
  refine range_open rfl (by omega) (gf := 35) (lb := #[.pointer (some ⟨w.heap.size + 1 + 1, 0, none⟩)]) rfl trivial (enters_of Try.func35 (by kernel_rfl) rfl) ?_
  intro fn rec hfn hrec
  have HREC := hide hrec
  have HP := hide (show ∀ st pe, (rec st pe).pending = pe ∧ (rec st pe).state = st from fun st pe => by rw [hrec]; exact ⟨rfl, rfl⟩)
  have HRR := hide (show ∀ st pe st' pe', { rec st pe with state := st', pending := pe' } = rec st' pe' from fun st pe st' pe' => by rw [hrec])
  clear hrec
  refine callsIn_of_wp Try.func35 rfl trivial ?_
  simp only [Try.ntmps35, List.size_toArray, List.length_cons, List.length_nil, Nat.reduceAdd, Nat.reduceSub, Array.replicate_succ, Array.replicate_zero, List.push_toArray, List.append_toArray, List.nil_append, List.cons_append]
  gi_wp2
  have hI0 : LnI w w.heap.size (.loop (rec .ready none)) L 0 (s.extract 0 s.size) (((((w.alloc (.cells #[.int .i64 L] 3)).alloc (.cells #[.int .i64 0] 3)).alloc (.cells #[.string s] 9)).alloc (.deferred (some []))).alloc (.loop (rec .ready none))) := by
    refine ⟨by have := World.alloc_heap_new ((((w.alloc (.cells #[.int .i64 L] 3)).alloc (.cells #[.int .i64 0] 3)).alloc (.cells #[.string s] 9)).alloc (.deferred (some []))) (.loop (rec .ready none)); simpa only [World.size_alloc] using this, ?_, ((((Boxed.new _ _ _).alloc _).alloc _).alloc _).alloc _, ?_, ?_, ?_⟩
    · have := World.alloc_heap_new (((w.alloc (.cells #[.int .i64 L] 3)).alloc (.cells #[.int .i64 0] 3)).alloc (.cells #[.string s] 9)) (.deferred (some []))
      rw [World.size_alloc, World.size_alloc, World.size_alloc] at this
      exact (Below.heap_alloc _ _ _ (by simp only [World.size_alloc]; omega)).trans this
    · have := ((((Boxed.new (w.alloc (.cells #[.int .i64 L] 3)) 3 (.int .i64 0)).alloc (.cells #[.string s] 9)).alloc (.deferred (some []))).alloc (.loop (rec .ready none)))
      simpa using this
    · have := ((Boxed.new ((w.alloc (.cells #[.int .i64 L] 3)).alloc (.cells #[.int .i64 0] 3)) 9 (.string s)).alloc (.deferred (some []))).alloc (.loop (rec .ready none))
      rw [show s.extract 0 s.size = s by simp]
      simpa using this
    · exact (((((Below.refl _ _).alloc (Nat.le_refl _) _).alloc (by simp) _).alloc (by simp; omega) _).alloc (by simp; omega) _).alloc (by simp; omega) _
  gi_loopw [3] (fun _ wr => ∃ (a : Nat) (l : Int), Hid (LnI w w.heap.size (.loop (rec .ready none)) l a (s.extract a s.size) wr) ∧ a ≤ s.size ∧ l ≤ L ∧ -9223372036854775808 ≤ l ∧ Hid (fsA s L.toNat a = (a, l.toNat))) (fun _ wr => restN w.heap.size wr)
  case atStart => exact ⟨0, L, hide hI0, by omega, by omega, by omega, hide rfl⟩
  case round =>
    obtain ⟨a, l, HI, ha, hl, hl0, HA⟩ := hrel
    have hbc := HI.out.2.2.2.2.1.cell
    have hbf := HI.out.2.2.2.2.1.frozen
    have hsz : (s.extract a s.size).size = s.size - a := by simp
    by_cases hlt : a < s.size
    · obtain ⟨r, hr⟩ : ∃ r, s.extract a s.size = r := ⟨_, rfl⟩
      rw [hr] at hbc hsz
      have HR := hide hr
      clear hr
      obtain ⟨x, hx⟩ : ∃ x, Lib.indexByte r.data.toList 10 = x := ⟨_, rfl⟩
      have HX := hide hx
      rcases index_en s a ha with ⟨h1, h2, h3⟩ | ⟨h1, h2, h3⟩
      · rw [HR.out, hx] at h1
        subst h1
        have HE2 := hide h2
        have HSF := hide (suffix_f s a h3)
        rw [HR.out] at HSF
        have hI2 := HI.out.set2 ⟨#[]⟩
        have hy := run_yield (P := Try.prog) (args := #[.string r]) hI2.1 (by rw [HREC.out]; rfl)
        have HI2 := hide hI2
        clear hx h2 h3 hI2
        gi_wp2_with (refine ⟨trivial, ?_⟩; gi_at_call 30; refine (callsIn_wide.2 (idx_call r _ HX.out _)).mono ?_; rintro e w' ⟨rfl, rfl⟩)
        refine round_at (a1 := { tmps := #[.string s, .int .i64 L, undef, .pointer (some ⟨w.heap.size, 0, none⟩), .int .i64 0, .pointer (some ⟨w.heap.size + 1, 0, none⟩), .string r, .string s, .func (.func 35) #[] #[.pointer (some ⟨w.heap.size + 1 + 1, 0, none⟩)], .string r, undef, undef, undef, undef, undef, undef, undef, undef, undef, undef, undef, undef, undef, undef], defers := [] }) HI2.out.1 (HP.out _ _).2 (by rw [HREC.out]; exact hfn) ?_ ?_
        · intro K9 hK9
          rw [HREC.out]
          gi_wp2
          exact hK9
        · rw [rec_state HRR.out HP.out]
          have hI3 := HI2.out.put rfl (.loop (rec .busy none))
          obtain ⟨WB, hWB⟩ : ∃ WB, (wr.setCell ⟨w.heap.size + 1 + 1, 0, none⟩ (.string ⟨#[]⟩)).putObj (w.heap.size + 1 + 1 + 1 + 1) (.loop (rec .busy none)) = WB := ⟨_, rfl⟩
          rw [hWB] at hI3 ⊢
          clear hWB
          have HI3 := hide hI3
          have hc0 := hI3.2.2.1.cell
          clear hI3 hy
          rw [HREC.out]
          by_cases hl9 : l ≤ 0
          all_goals
            gi_wp2_with (refine ⟨trivial, ?_⟩; gi_at_call 26; refine (CallsIn.inRound _ (callsIn_wide.2 (suf_call _ false HSF.out (by omega) _))).mono ?_; rintro e w' ⟨rfl, rfl⟩)
            all_goals (first | (refine ⟨trivial, ?_⟩; gi_wp2) | skip)
            refine ⟨_, _, round_end HRR.out HI3.out.1 (some (.exit 0)), ?_⟩
            have hI4 := HI3.out.put rfl (.loop (rec .done (some (.exit 0))))
            obtain ⟨WD, hWD⟩ : ∃ WD, WB.putObj (w.heap.size + 1 + 1 + 1 + 1) (.loop (rec .done (some (.exit 0)))) = WD := ⟨_, rfl⟩
            rw [hWD] at hI4
            simp only [Option.isNone_some, Bool.false_eq_true, if_false, hWD]
            have HI4 := hide hI4
            clear hI4 hWD
            gi_wp2
            refine bodyPost_ret (results_none rfl _ _ _) rfl ?_
            obtain ⟨o', ho'⟩ := end_ex (P := Try.prog) (pe := some (.exit 0)) HI4.out.1 (by rw [(HP.out _ _).2]; simp) (HP.out _ _).1
            refine ⟨_, _, ho', ?_⟩
            have hE := HI4.out.put rfl o'
            clear ho'
            obtain ⟨WE, hWE⟩ : ∃ WE, WD.putObj (w.heap.size + 1 + 1 + 1 + 1) o' = WE := ⟨_, rfl⟩
            rw [hWE] at hE ⊢
            clear hWE
            have hc1 := hE.2.2.2.1.cell
            dsimp only
            gi_wp2
            refine ⟨by simp, .inl ⟨_, _, rfl, run_takeDeferred hE.2.1, ?_⟩⟩
            refine ⟨_, results_tmp rfl _ _ _, ?_, hE.2.2.2.2.2.trans (belowK_b (w := w) (Nat.le_refl _) WE _ _ _ (by omega) hE.2.1 rfl rfl)⟩
            exact ret_i (by rw [fsA_last _ _ _ _ HA.out ha HE2.out])
      · rw [HR.out, hx] at h1
        have H3 := hide h3
        obtain ⟨d, hd⟩ : ∃ d, enP s a - a = d := ⟨_, rfl⟩
        rw [hd] at h1
        subst h1
        have hd2 : d + 1 ≤ r.size := by have := (enP_spec s a ha).1; omega
        have HD := hide hd
        clear hx hd h2 h3
        gi_wp2_with (refine ⟨trivial, ?_⟩; gi_at_call 30; refine (callsIn_wide.2 (idx_call r _ HX.out _)).mono ?_; rintro e w' ⟨rfl, rfl⟩)
        have l1 : (d : Int) + 1 ≤ (r.size : Int) := by omega
        gi_region
        have hI2 := (HI.out.set2 (r.extract (d + 1) (s.size - a))).drewN 1
        have he1 : enP s a = a + d := by have := (enP_spec s a ha).1; have := HD.out; omega
        have hlt2 : a + d < s.size := by omega
        have ht2 : r.extract (d + 1) (s.size - a) = s.extract (a + d + 1) s.size := by
          rw [← HR.out, extract_two]; congr 1; omega
        have ht1 : r.extract 0 (d + 1) = s.extract a (a + d + 1) := by
          rw [← HR.out, extract_two]; congr 1; omega
        obtain ⟨W0, hW0⟩ : ∃ W0, (wr.setCell ⟨w.heap.size + 1 + 1, 0, none⟩ (.string (r.extract (d + 1) (s.size - a)))).drew = W0 := ⟨_, rfl⟩
        rw [show (wr.setCell ⟨w.heap.size + 1 + 1, 0, none⟩ (.string (r.extract (d + 1) (s.size - a)))).drewN 1 = W0 from hW0, ht2] at hI2
        rw [hW0]
        obtain ⟨t, ht⟩ : ∃ t, r.extract 0 (d + 1) = t := ⟨_, rfl⟩
        have hts : t.size = d + 1 := by rw [← ht, ht1]; simp; omega
        have HSF := hide (show Lib.hasSuffix t.data.toList [10] = true by rw [← ht, ht1]; exact suffix_t s a (a + d) (by omega) hlt2 (by rw [← he1]; exact H3.out))
        have HE1 := hide he1
        have hy := run_yield (P := Try.prog) (args := #[.string t]) hI2.1 (by rw [HREC.out]; rfl)
        have HI2 := hide hI2
        rw [ht]
        clear ht ht1 ht2 hW0 hI2 he1 l1
        gi_wp2
        refine round_at (a1 := { tmps := #[.string s, .int .i64 L, undef, .pointer (some ⟨w.heap.size, 0, none⟩), .int .i64 0, .pointer (some ⟨w.heap.size + 1, 0, none⟩), .string t, .string s, .func (.func 35) #[] #[.pointer (some ⟨w.heap.size + 1 + 1, 0, none⟩)], .string t, undef, undef, undef, undef, undef, undef, undef, undef, undef, undef, undef, undef, undef, undef], defers := [] }) HI2.out.1 (HP.out _ _).2 (by rw [HREC.out]; exact hfn) ?_ ?_
        · intro K9 hK9
          rw [HREC.out]
          gi_wp2
          exact hK9
        · rw [rec_state HRR.out HP.out]
          have hI3 := HI2.out.put rfl (.loop (rec .busy none))
          obtain ⟨WB, hWB⟩ : ∃ WB, W0.putObj (w.heap.size + 1 + 1 + 1 + 1) (.loop (rec .busy none)) = WB := ⟨_, rfl⟩
          rw [hWB] at hI3 ⊢
          clear hWB
          have HI3 := hide hI3
          have hc0 := hI3.2.2.1.cell
          have hf0 := hI3.2.2.1.frozen
          have hc1 := hI3.2.2.2.1.cell
          have hf1 := hI3.2.2.2.1.frozen
          clear hI3 hy
          rw [HREC.out]
          by_cases hl9 : l ≤ 0
          · clear hc1 hf1 hf0
            gi_wp2_with (refine ⟨trivial, ?_⟩; gi_at_call 26; refine (CallsIn.inRound _ (callsIn_wide.2 (suf_call _ true HSF.out (by omega) _))).mono ?_; rintro e w' ⟨rfl, rfl⟩)
            all_goals (first | (refine ⟨trivial, ?_⟩; gi_wp2) | skip)
            refine ⟨_, _, round_end HRR.out HI3.out.1 (some (.exit 0)), ?_⟩
            have hI4 := HI3.out.put rfl (.loop (rec .done (some (.exit 0))))
            obtain ⟨WD, hWD⟩ : ∃ WD, WB.putObj (w.heap.size + 1 + 1 + 1 + 1) (.loop (rec .done (some (.exit 0)))) = WD := ⟨_, rfl⟩
            rw [hWD] at hI4
            simp only [Option.isNone_some, Bool.false_eq_true, if_false, hWD]
            have HI4 := hide hI4
            clear hI4 hWD
            gi_wp2
            refine bodyPost_ret (results_none rfl _ _ _) rfl ?_
            obtain ⟨o', ho'⟩ := end_ex (P := Try.prog) (pe := some (.exit 0)) HI4.out.1 (by rw [(HP.out _ _).2]; simp) (HP.out _ _).1
            refine ⟨_, _, ho', ?_⟩
            have hE := HI4.out.put rfl o'
            clear ho'
            obtain ⟨WE, hWE⟩ : ∃ WE, WD.putObj (w.heap.size + 1 + 1 + 1 + 1) o' = WE := ⟨_, rfl⟩
            rw [hWE] at hE ⊢
            clear hWE
            have hc1 := hE.2.2.2.1.cell
            dsimp only
            gi_wp2
            refine ⟨by simp, .inl ⟨_, _, rfl, run_takeDeferred hE.2.1, ?_⟩⟩
            refine ⟨_, results_tmp rfl _ _ _, ?_, hE.2.2.2.2.2.trans (belowK_b (w := w) (Nat.le_refl _) WE _ _ _ (by omega) hE.2.1 rfl rfl)⟩
            exact ret_i (by rw [fsA_done s L.toNat a (by rw [HA.out]; show l.toNat = 0; omega) ha, HA.out])
          · gi_wp2_with (refine ⟨trivial, ?_⟩; gi_at_call 26; refine (CallsIn.inRound _ (callsIn_wide.2 (suf_call _ true HSF.out (by omega) _))).mono ?_; rintro e w' ⟨rfl, rfl⟩)
            have hI5 := (HI3.out.set1 ((a : Int) + ((d : Int) + 1))).set0 (l - 1)
            refine ⟨_, _, round_end HRR.out hI5.1 none, ?_⟩
            have hI6 := hI5.put rfl (.loop (rec .ready none))
            obtain ⟨WF, hWF⟩ : ∃ WF, ((WB.setCell ⟨w.heap.size + 1, 0, none⟩ (.int .i64 ((a : Int) + ((d : Int) + 1)))).setCell ⟨w.heap.size, 0, none⟩ (.int .i64 (l - 1))).putObj (w.heap.size + 1 + 1 + 1 + 1) (.loop (rec .ready none)) = WF := ⟨_, rfl⟩
            simp only [Option.isNone_none, if_true]
            rw [hWF] at hI6 ⊢
            rw [show (a : Int) + ((d : Int) + 1) = ((a + d + 1 : Nat) : Int) by omega] at hI6
            have HI6 := hide hI6
            have HM := hide hI6.rest
            clear hI5 hWF hI6 hc0 hc1 hf0 hf1
            gi_wp2
            go_roundw
            case rel =>
              refine ⟨a + d + 1, l - 1, HI6, by omega, by omega, by omega, hide ?_⟩
              have h9 := fsA_go s L.toNat a (l - 1).toNat (by rw [HA.out]; congr 1; omega) ha H3.out
              rw [HE1.out] at h9
              exact h9
            case measure => rw [HM.out, HI.out.rest]; simp; omega
    · obtain rfl : a = s.size := by omega
      obtain ⟨r, hr⟩ : ∃ r, s.extract s.size s.size = r := ⟨_, rfl⟩
      rw [hr] at hbc hsz
      rw [Nat.sub_self] at hsz
      clear hr
      gi_wp2
      go_end0
      obtain ⟨o', ho'⟩ := end_ex (P := Try.prog) (pe := none) HI.out.1 (by rw [(HP.out _ _).2]; simp) (HP.out _ _).1
      refine ⟨_, _, ho', ?_⟩
      have hE := HI.out.put rfl o'
      clear ho'
      dsimp only
      refine hK _ _ ?_
      obtain ⟨WE, hWE⟩ : ∃ WE, wr.putObj (w.heap.size + 1 + 1 + 1 + 1) o' = WE := ⟨_, rfl⟩
      rw [hWE] at hE ⊢
      clear hWE
      have hc1 := hE.2.2.2.1.cell
      gi_wp2
      refine ⟨by simp, .inl ⟨_, _, rfl, run_takeDeferred hE.2.1, ?_⟩⟩
      refine ⟨_, results_tmp rfl _ _ _, ?_, hE.2.2.2.2.2.trans (belowK_b (w := w) (Nat.le_refl _) WE _ _ _ (by omega) hE.2.1 rfl rfl)⟩
      exact ret_i (by unfold fsP; rw [HA.out])
end Go.Proofs.Ytkmcfcpockpadaa
