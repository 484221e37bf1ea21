/- Contract of parser.params: a range over strings.SplitSeq. Contract of parser.Feed. -/
import Derived.Test.YtmemdhmjhckmaaaDoorZ14
import Derived.Test.YtmemdhmjhckmaaaDoorZ12
import Derived.Test.YtmemdhmjhckmaaaDoorShelf
namespace Go.Proofs.YtmemdhmjhckmaaaDoor
open Go.RowKit Go.Shelf
set_option maxRecDepth 100000
attribute [local go_sem] Oper.semAt_some

theorem splitseq_any (s : ByteArray) (w : World) : Calls Tryd.prog 92 #[.string s, .string ⟨#[59]⟩] w fun e w' => e = .returned (.func (.func 94) #[] #[.pointer (some ⟨w.heap.size + 1, 0, none⟩), .pointer (some ⟨w.heap.size, 0, none⟩), .pointer (some ⟨w.heap.size + 1 + 1, 0, none⟩)]) ∧ w' = ((w.alloc (.cells #[.string s] 9)).alloc (.cells #[.string ⟨#[59]⟩] 9)).alloc (.cells #[.int .i64 0] 3) := by
  have hsp : ∀ W : World, Calls Tryd.prog 93 #[.string s, .string ⟨#[59]⟩, .int .i64 0] W fun e w' => e = .returned (.func (.func 94) #[] #[.pointer (some ⟨W.heap.size + 1, 0, none⟩), .pointer (some ⟨W.heap.size, 0, none⟩), .pointer (some ⟨W.heap.size + 1 + 1, 0, none⟩)]) ∧ w' = ((W.alloc (.cells #[.string s] 9)).alloc (.cells #[.string ⟨#[59]⟩] 9)).alloc (.cells #[.int .i64 0] 3) := by
    intro W
    go_enter Tryd.func93, Tryd.ntmps93
    go_wp2
    go_ret
    exact ⟨rfl, rfl⟩
  go_enter Tryd.func92, Tryd.ntmps92
  go_wp2_with (go_at_call 93; refine (hsp _).mono ?_; rintro e w' ⟨rfl, rfl⟩)
  go_ret
  exact ⟨rfl, rfl⟩
theorem idx_semi (r : ByteArray) (x : Int) (hx : Lib.indexByte r.data.toList 59 = x) (w : World) : Calls Tryd.prog 95 #[.string r, .string ⟨#[59]⟩] w fun e w' => e = .returned (.int .i64 x) ∧ w = w' := by
  subst hx
  exact (Tryd.strings_Index_one r 59 w).mono fun e w' ⟨h1, h2⟩ => ⟨h1, h2.symm⟩

set_option maxRecDepth 100000 in
set_option maxHeartbeats 4000000 in
theorem pparams_some (s : ByteArray) (w : World) (hs : s.size ≤ 100000) (h0 : 0 < s.size) : Calls Tryd.prog 76 #[.string s] w (ParPost w (params s)) := by
  have hl := str_nonempty h0
  rw [params_of h0]
  obtain ⟨o, ho⟩ : ∃ o, (pgo s.data.toList [] 0).bind few = o := ⟨_, rfl⟩
  rw [ho]
  have HO := hide ho
  clear ho
  refine (callsIn_wide (n := 9)).1 ?_
  refine callsIn_of_wp_marks Tryd.func76 rfl trivial ?_
  simp only [Tryd.ntmps76, List.size_toArray, List.length_cons, List.length_nil, Nat.reduceAdd, Nat.reduceSub, Array.replicate_succ, Array.replicate_zero, List.push_toArray, List.append_toArray, List.nil_append, List.cons_append]
  gi_wp2_with (refine ⟨trivial, ?_⟩; gi_at_call 92; refine (callsIn_wide.2 (splitseq_any s _)).mono ?_; rintro e w' ⟨rfl, rfl⟩)
  rename_i K hK
  refine range_open rfl (by omega) (gf := 94) (lb := #[.pointer (some ⟨w.heap.size + 1 + 1 + 1 + 1, 0, none⟩), .pointer (some ⟨w.heap.size + 1 + 1 + 1, 0, none⟩), .pointer (some ⟨w.heap.size + 1 + 1 + 1 + 1 + 1, 0, none⟩)]) rfl trivial (enters_of Tryd.func94 (by kernel_rfl) rfl) ?_
  intro fn rec hfn hrec
  have HREC := hide hrec
  have HP := hide (show ∀ st pe, (rec st pe).pending = pe ∧ (rec st pe).state = st from fun st pe => by rw [hrec]; exact ⟨rfl, rfl⟩)
  have HRR := hide (show ∀ st pe st' pe', { rec st pe with state := st', pending := pe' } = rec st' pe' from fun st pe st' pe' => by rw [hrec])
  have HRound : Hid (∀ (p : ByteArray) (L : List Int) (v : Value) (r : ByteArray) (W : World) (R : Ending → World → Prop), p.size ≤ 100000 → L.length ≤ 100000 → PrI w w.heap.size (.loop (rec .ready none)) v L r W →
      ∀ tm : Array Value, tm = #[.string s, undef, .pointer (some ⟨w.heap.size, 0, none⟩), .pointer (some ⟨w.heap.size + 1, 0, none⟩), .pointer (some ⟨w.heap.size + 1 + 1, 0, none⟩), undef, undef, undef, undef, .string s, .bool false, .string s, .func (.func 94) #[] #[.pointer (some ⟨w.heap.size + 1 + 1 + 1 + 1, 0, none⟩), .pointer (some ⟨w.heap.size + 1 + 1 + 1, 0, none⟩), .pointer (some ⟨w.heap.size + 1 + 1 + 1 + 1 + 1, 0, none⟩)], .string p, undef, undef, undef, undef, undef, undef, undef, undef, undef, undef, undef, undef, undef, undef, undef, undef, undef, undef, undef, undef, undef, undef, undef, undef, undef, undef] →
      (∀ m W' v', numB p.data.toList 0 = some m → PrI w w.heap.size (.loop (rec .ready none)) v' (L ++ [m]) r W' → R (.returned (.bool true)) W') →
      (∀ W' v', numB p.data.toList 0 = none → PrI w w.heap.size (.loop (rec .done (some .ret))) v' L r W' → R (.returned (.bool false)) W') →
      RoundIn Fence.wide 7 Tryd.prog (w.heap.size + 1 + 1 + 1 + 1 + 1 + 1 + 1) (rec .ready none).fn tm (rec .ready none).assign (rec .ready none).body W R) := by
    clear hrec hK HO hl h0
    intro p L v r W R hp9 hL9 hI tm htm hgood hbad
    subst htm
    refine round_at (a1 := { tmps := #[.string s, undef, .pointer (some ⟨w.heap.size, 0, none⟩), .pointer (some ⟨w.heap.size + 1, 0, none⟩), .pointer (some ⟨w.heap.size + 1 + 1, 0, none⟩), .string p, undef, undef, undef, .string s, .bool false, .string s, .func (.func 94) #[] #[.pointer (some ⟨w.heap.size + 1 + 1 + 1 + 1, 0, none⟩), .pointer (some ⟨w.heap.size + 1 + 1 + 1, 0, none⟩), .pointer (some ⟨w.heap.size + 1 + 1 + 1 + 1 + 1, 0, none⟩)], .string p, undef, undef, undef, undef, undef, undef, undef, undef, undef, undef, undef, undef, undef, undef, undef, undef, undef, undef, undef, undef, undef, undef, undef, undef, undef, undef], defers := [] }) hI.1 (HP.out _ _).2 (by rw [HREC.out]; exact hfn) ?_ ?_
    · intro K9 hK9
      rw [HREC.out]
      gi_wp2
      exact hK9
    · rw [rec_state HRR.out HP.out]
      have hI3 := hI.put rfl (.loop (rec .busy none))
      obtain ⟨WB, hWB⟩ : ∃ WB, W.putObj (w.heap.size + 1 + 1 + 1 + 1 + 1 + 1 + 1) (.loop (rec .busy none)) = WB := ⟨_, rfl⟩
      rw [hWB] at hI3 ⊢
      clear hWB hI
      have HI3 := hide hI3
      have HG := hide hgood
      have HBad := hide hbad
      clear hI3 hgood hbad
      rw [HREC.out]
      gi_wp2
      gi_loopw [6] (fun nv wr => ∃ (pos : Nat) (n : Int), nv = .int .i64 n ∧ pos ≤ p.size ∧ 0 ≤ n ∧ n ≤ 9999 ∧ wr.heap[WB.heap.size]? = some (.stringIter p pos) ∧ Hid (numB (p.data.toList.drop pos) n = numB p.data.toList 0) ∧ Hid (Below WB.heap.size WB wr)) (fun _ wr => p.size - wr.iterPos WB.heap.size)
      case atStart => exact ⟨0, 0, rfl, Nat.zero_le _, by omega, by omega, World.iter_heap _ _ _, hide rfl, hide ((Below.refl _ _).alloc (Nat.le_refl _) _)⟩
      case round =>
        obtain ⟨pos, n, rfl, hpos, hn0, hn1, hit, HN, HB⟩ := hrel
        by_cases hp : pos < p.size
        · have hnx : ∀ ty, (Instr.next (.pointer (some ⟨WB.heap.size, 0, none⟩)) true ty).run Tryd.prog wr = _ := fun ty => Lib.run_next_any_at wr WB.heap.size p pos ty hit hp
          obtain ⟨hd1, hd2⟩ := dec_digit p pos hp
          obtain ⟨wi, hwi⟩ : ∃ wi, wi = wr.iterAt WB.heap.size p (pos + (Utf8.decode p pos).2) := ⟨_, rfl⟩
          have HBi := hide (show Below WB.heap.size WB wi by rw [hwi]; exact Lib.below_iterAt HB.out (Nat.le_refl _) _ _)
          have HITI := hide (show wi.heap[WB.heap.size]? = some (.stringIter p (pos + (Utf8.decode p pos).2)) by rw [hwi]; exact Lib.iterAt_heap _ _ _ _ _ hit)
          have HIT := hide hit
          rw [← hwi] at hnx
          have hI4 := HI3.out.below HBi.out
          have hc0 := hI4.2.2.1.cell
          have hf0 := hI4.2.2.1.frozen
          have hc1 := hI4.2.2.2.1.cell
          have hf1 := hI4.2.2.2.1.frozen
          have HI4 := hide hI4
          clear hwi hit hI4
          by_cases hdg : 48 ≤ p[pos].toNat ∧ p[pos].toNat ≤ 57
          · obtain ⟨e1, e2⟩ := hd1 hdg
            obtain ⟨g1, g2⟩ := hdg
            have HS := hide (numB_digit (n := n) hp g1 g2)
            rw [HN.out] at HS
            rw [e1] at hnx
            rw [e2] at HITI
            obtain ⟨c, hc⟩ : ∃ c, p[pos].toNat = c := ⟨_, rfl⟩
            rw [hc] at HS hnx g1 g2
            have t1 : (48 : Int) ≤ (c : Int) := by omega
            have t2 : (c : Int) ≤ 57 := by omega
            clear hd1 hd2 e1 e2 hc0 hf0 hc1 hf1 hc
            gi_wp2
            go_roundw
            case rel => exact ⟨pos + 1, _, rfl, by omega, by omega, by omega, HITI.out, hide HS.out.symm, HBi⟩
            case measure => simp only [World.iterPos]; rw [HITI.out, HIT.out]; dsimp only; omega
          · have hbd := hd2 hdg
            have HS := hide (numB_bad (n := n) hp hdg)
            rw [HN.out] at HS
            generalize (Utf8.decode p pos).1 = c at *
            clear hd1 hd2 hdg
            by_cases hc48 : c < 48
            all_goals
              have hcI : (c : Int) < 48 ∨ 57 < (c : Int) := by omega
              have t1 : (if c < 48 then (c : Int) < 48 else ¬ (c : Int) < 48) := by split <;> omega
              simp only [hc48, if_true, if_false] at t1
              first
                | (have t2 : (57 : Int) < (c : Int) := by omega)
                | skip
              clear hcI hbd hc48
              gi_wp2
              have h5 : PrI w w.heap.size (.loop (rec .busy none)) v L r ((wi.setCell ⟨w.heap.size, 0, none⟩ (.slice none 0 0)).setCell ⟨w.heap.size + 1, 0, none⟩ (.bool false)) := HI4.out.setRes
              refine ⟨_, _, round_end HRR.out h5.1 (some .ret), ?_⟩
              simp only [Option.isNone_some, Bool.false_eq_true, if_false]
              exact HBad.out _ v HS.out (h5.put rfl _)
        · have hnx : ∀ ty, (Instr.next (.pointer (some ⟨WB.heap.size, 0, none⟩)) true ty).run Tryd.prog wr = _ := fun ty => Lib.run_next_end_at wr WB.heap.size p pos ty hit hp
          have HS := hide (numB_end (s := p) (n := n) (by omega : p.size ≤ pos))
          rw [HN.out] at HS
          have hI4 := HI3.out.below HB.out
          have hc2 := hI4.2.2.2.2.1.cell
          have hf2 := hI4.2.2.2.2.1.frozen
          have hown := hI4.2.2.2.2.2.2.2.2.1
          have hlt := (Array.getElem?_eq_some_iff.1 hI4.1).1
          have HI4 := hide hI4
          obtain ⟨i0, hi, hz0, hz1, hz2⟩ := info_parts info_intA
          have HIT := hide hit
          clear hI4 hit
          gi_wp2_with (gi_at_builtin; refine wpListIn_append_own _ rfl _ _ 44 rfl (w.heap.size + 1 + 1 + 1 + 1 + 1 + 1 + 1 + 1) 3 i0 (.int .i64 0) 1 8 Tryd.underlying44 hi hz0 hz1 hz2 rfl (by decide) _ _ _ rfl (hown.alloc _) ⟨wr.heap.size, 0, none⟩ 1 1 [.int .i64 n] rfl rfl (cell_one_new _ _ _) (by simp [Value.oneCell']) (by unfold maxLen; omega) (by omega) (by simp; omega) ?_; intro v' w1 hown1 hgrow1 _; obtain ⟨A9, c9, rfl⟩ := own_formA hown1; have HAP := hide (HI4.out.app hgrow1 hown1); have hbx := HI4.out.appB hgrow1; have hc9 := hbx.cell; have hf9 := hbx.frozen; clear hown1 hgrow1 hbx)
          refine ⟨_, _, round_end HRR.out HAP.out.1 none, ?_⟩
          simp only [Option.isNone_none, if_true]
          exact HG.out n _ _ HS.out (HAP.out.put rfl _)
  clear hrec
  refine callsIn_of_wp Tryd.func94 rfl trivial ?_
  simp only [Tryd.ntmps94, List.size_toArray, List.length_cons, List.length_nil, Nat.reduceAdd, Nat.reduceSub, Array.replicate_succ, Array.replicate_zero, List.push_toArray, List.append_toArray, List.nil_append, List.cons_append]
  gi_wp2
  have HI0 : Hid (PrI w w.heap.size (.loop (rec .ready none)) (.slice none 0 0) [] s ((((((((w.alloc (.cells #[.slice none 0 0] 44)).alloc (.cells #[.bool false] 4)).alloc (.cells #[.slice none 0 0] 44)).alloc (.cells #[.string s] 9)).alloc (.cells #[.string ⟨#[59]⟩] 9)).alloc (.cells #[.int .i64 0] 3)).alloc (.deferred (some []))).alloc (.loop (rec .ready none)))) := hide (PrI.start w s _)
  gi_loopw [7] (fun _ wr => ∃ (r : ByteArray) (L : List Int) (v : Value), Hid (PrI w w.heap.size (.loop (rec .ready none)) v L r wr) ∧ L.length + r.size ≤ s.size ∧ Hid (pgo r.data.toList L 0 = pgo s.data.toList [] 0)) (fun _ wr => restP w.heap.size wr)
  case atStart => exact ⟨s, [], _, HI0, by simp, hide rfl⟩
  case round =>
    clear HI0
    obtain ⟨r, L, v, HI, hLr, HPG⟩ := hrel
    have hcr := HI.out.2.2.2.2.2.1.cell
    have hfr := HI.out.2.2.2.2.2.1.frozen
    have hcs := HI.out.2.2.2.2.2.2.1.cell
    have hcz := HI.out.2.2.2.2.2.2.2.1.cell
    obtain ⟨x, hx⟩ : ∃ x, Lib.indexByte r.data.toList 59 = x := ⟨_, rfl⟩
    have hge := Lib.indexByte_ge r.data.toList 59
    rw [hx] at hge
    have HX := hide hx
    by_cases hneg : x = -1
    · subst hneg
      have HN := hide (pgo_none hx L)
      have hy := run_yield (P := Tryd.prog) (args := #[.string r]) HI.out.1 (by rw [HREC.out]; rfl)
      clear hx hge
      gi_wp2_with (refine ⟨trivial, ?_⟩; gi_at_call 95; refine (callsIn_wide.2 (idx_semi r _ HX.out _)).mono ?_; rintro e w' ⟨rfl, rfl⟩)
      refine HRound.out r L v r wr _ (by omega) (by omega) HI.out _ (by rw [HREC.out]; simp) ?_ ?_
      · intro m W' v' hm hI'
        have HI' := hide hI'
        have HO2 := hide (show (some (L ++ [m])).bind few = o by rw [← HO.out, ← HPG.out, HN.out, hm]; rfl)
        clear hI' hm
        gi_wp2
        go_end0
        obtain ⟨o', ho'⟩ := end_ex (P := Tryd.prog) (pe := none) HI'.out.1 (by rw [(HP.out _ _).2]; simp) (HP.out _ _).1
        simp only [World.size_alloc]
        refine ⟨_, _, ho', ?_⟩
        have hE := HI'.out.put rfl o'
        clear ho'
        dsimp only
        refine hK _ _ ?_
        obtain ⟨WE, hWE⟩ : ∃ WE, W'.putObj (w.heap.size + 1 + 1 + 1 + 1 + 1 + 1 + 1) o' = WE := ⟨_, rfl⟩
        rw [hWE] at hE ⊢
        clear hWE
        obtain ⟨A9, c9, hv9⟩ := own_formA hE.2.2.2.2.2.2.2.2.1
        subst hv9
        have hc2 := hE.2.2.2.2.1.cell
        have hc0 := hE.2.2.1.cell
        have hf0 := hE.2.2.1.frozen
        have hc1 := hE.2.2.2.1.cell
        have hf1 := hE.2.2.2.1.frozen
        have hnum := nums_of_own hE.2.2.2.2.2.2.2.2.1
        have HNU := hide hnum
        have HE := hide hE
        obtain ⟨q, hq⟩ : ∃ q, (L ++ [m]).length = q := ⟨_, rfl⟩
        have hq9 : q ≤ 200000 := by rw [← hq]; simp; omega
        rw [hq] at hc2 HNU HE
        have HQ := hide hq
        clear hE hnum hq hK
        by_cases hf : q ≤ 16
        · have t1 : ¬ (16 : Int) < (q : Int) := by omega
          gi_wp2
          have hF := HE.out.fin (.slice A9 q c9) true
          refine ⟨by simp, .inl ⟨_, _, rfl, run_takeDeferred hF.1, ?_⟩⟩
          obtain ⟨r0, r1, r2, r3⟩ := hF.out
          refine ⟨.tuple #[.slice A9 q c9, .bool true], by simp [results, Tryd.results76, go_sem, r0, r1], ?_⟩
          rw [← HO2.out]
          simp only [Option.bind_some, few]
          rw [if_pos (by rw [HQ.out]; exact hf)]
          exact ⟨_, rfl, r2, r3⟩
        · have t1 : (16 : Int) < (q : Int) := by omega
          gi_wp2
          have hF := HE.out.fin (.slice none 0 0) false
          refine ⟨by simp, .inl ⟨_, _, rfl, run_takeDeferred hF.1, ?_⟩⟩
          obtain ⟨r0, r1, r2, r3⟩ := hF.out
          refine ⟨.tuple #[.slice none 0 0, .bool false], by simp [results, Tryd.results76, go_sem, r0, r1], ?_⟩
          rw [← HO2.out]
          simp only [Option.bind_some, few]
          rw [if_neg (by rw [HQ.out]; exact hf)]
          exact ⟨_, rfl, r3⟩
      · intro W' v' hm hI'
        have HI' := hide hI'
        have HO2 := hide (show none = o by rw [← HO.out, ← HPG.out, HN.out, hm]; rfl)
        clear hI' hm
        gi_wp2
        go_end0
        obtain ⟨o', ho'⟩ := end_ex (P := Tryd.prog) (pe := some .ret) HI'.out.1 (by rw [(HP.out _ _).2]; simp) (HP.out _ _).1
        simp only [World.size_alloc]
        refine ⟨_, _, ho', ?_⟩
        have hE := HI'.out.put rfl o'
        clear ho'
        dsimp only
        obtain ⟨WE, hWE⟩ : ∃ WE, W'.putObj (w.heap.size + 1 + 1 + 1 + 1 + 1 + 1 + 1) o' = WE := ⟨_, rfl⟩
        rw [hWE] at hE ⊢
        clear hWE
        have hc0 := hE.2.2.1.cell
        have hc1 := hE.2.2.2.1.cell
        have HE := hide hE
        clear hE
        gi_wp2
        have hF := HE.out.fin0
        refine ⟨by simp, .inl ⟨_, _, rfl, run_takeDeferred hF.1, ?_⟩⟩
        obtain ⟨r0, r1, r2, r3⟩ := hF.out
        refine ⟨.tuple #[.slice none 0 0, .bool false], by simp [results, Tryd.results76, go_sem, r0, r1], ?_⟩
        rw [← HO2.out]
        exact ⟨_, rfl, r3⟩
    · obtain ⟨d, rfl⟩ : ∃ d : Nat, x = d := ⟨x.toNat, by omega⟩
      obtain ⟨hd, hpg⟩ := pgo_some hx L
      have HN := hide hpg
      have hy := run_yield (P := Tryd.prog) (args := #[.string (r.extract 0 d)]) HI.out.1 (by rw [HREC.out]; rfl)
      clear hx hge hpg hneg
      gi_wp2_with (refine ⟨trivial, ?_⟩; gi_at_call 95; refine (callsIn_wide.2 (idx_semi r _ HX.out _)).mono ?_; rintro e w' ⟨rfl, rfl⟩)
      have hez : (r.extract 0 d).size = d := by simp; omega
      refine HRound.out (r.extract 0 d) L v r wr _ (by omega) (by omega) HI.out _ (by rw [HREC.out]; simp) ?_ ?_
      · intro m W' v' hm hI'
        have HI' := hide hI'
        have hcr2 := hI'.2.2.2.2.2.1.cell
        have hfr2 := hI'.2.2.2.2.2.1.frozen
        have hcs2 := hI'.2.2.2.2.2.2.1.cell
        have HO2 := hide (show pgo (r.extract (d + 1) r.size).data.toList (L ++ [m]) 0 = pgo s.data.toList [] 0 by rw [← HPG.out, HN.out, hm]; rfl)
        have l1 : (d : Int) + 1 ≤ (r.size : Int) := by omega
        have l2 : (r.size : Int) ≤ 100000 := by omega
        have HZ := hide hI'.rest
        have HZ0 := hide HI.out.rest
        clear hI' hm hcr hfr hcs hcz hy hez
        gi_wp2
        have HIn := hide (HI'.out.setR (r.extract (d + 1) r.size))
        go_roundw
        case rel => exact ⟨_, _, _, HIn, by simp; omega, HO2⟩
        case measure => rw [HIn.out.rest, HZ0.out]; simp; omega
      · intro W' v' hm hI'
        have HI' := hide hI'
        have HO2 := hide (show none = o by rw [← HO.out, ← HPG.out, HN.out, hm]; rfl)
        clear hI' hm hcr hfr hcs hcz hy hez
        gi_wp2
        refine bodyPost_ret (results_none rfl _ _ _) rfl ?_
        obtain ⟨o', ho'⟩ := end_ex (P := Tryd.prog) (pe := some .ret) HI'.out.1 (by rw [(HP.out _ _).2]; simp) (HP.out _ _).1
        refine ⟨_, _, ho', ?_⟩
        have hE := HI'.out.put rfl o'
        clear ho'
        dsimp only
        obtain ⟨WE, hWE⟩ : ∃ WE, W'.putObj (w.heap.size + 1 + 1 + 1 + 1 + 1 + 1 + 1) o' = WE := ⟨_, rfl⟩
        rw [hWE] at hE ⊢
        clear hWE
        have HE := hide hE
        clear hE
        gi_wp2
        have hF := HE.out.fin0
        refine ⟨by simp, .inl ⟨_, _, rfl, run_takeDeferred hF.1, ?_⟩⟩
        obtain ⟨r0, r1, r2, r3⟩ := hF.out
        refine ⟨.tuple #[.slice none 0 0, .bool false], by simp [results, Tryd.results76, go_sem, r0, r1], ?_⟩
        rw [← HO2.out]
        exact ⟨_, rfl, r3⟩

/-- parser.params. -/
theorem pparams_any (s : ByteArray) (w : World) (hs : s.size ≤ 100000) : Calls Tryd.prog 76 #[.string s] w (ParPost w (params s)) := by
  by_cases h0 : s.size = 0
  · obtain rfl := size0 h0
    go_enter Tryd.func76, Tryd.ntmps76
    go_wp2
    refine bodyPost_ret (v := .tuple #[.slice none 0 0, .bool true]) (by simp [results, Tryd.results76, go_sem]) rfl ?_
    refine ⟨_, rfl, NumsV.nil _, ?_⟩
    exact ((Below.refl _ _).alloc (Nat.le_refl _) _).alloc (by simp) _
  · exact pparams_some s w hs (by omega)
end Go.Proofs.YtmemdhmjhckmaaaDoor
namespace Go.Proofs.YtmemdhmjhckmaaaDoor
open Go.RowKit
set_option maxRecDepth 100000

theorem flatA_total (M : List (Value × Ac)) (j : Nat) (u : Value) (h : (flatA M)[j]? = some u) : j / 4 * 4 + 3 < (flatA M).length := by
  have h1 := (List.getElem?_eq_some_iff.1 h).1
  rw [flatA_len] at h1 ⊢
  omega
/-- Two stores into a block of two cells. -/
theorem acts_set2 {W : World} {v : Value} {L : List Ac} (h : ActsV W v L) {b : Nat} {cs : Array Value} {T : TypeId} {f : Nat × Nat} (hb : W.heap[b]? = some (.cells cs T f)) (h2 : cs.size = 2) (hT : T ≠ 3) (x y : Value) : ActsV ((W.setCell ⟨b, 0, none⟩ x).setCell ⟨b, 1, none⟩ y) v L := by
  obtain ⟨A, cap, M, e, em, h0, hcap, hn, hc, h4⟩ := h
  have ht : TyA W b T := ⟨cs, f, hb⟩
  refine ⟨A, cap, M, e, em, h0, hcap, fun x hx => ⟨nums_far (nums_far (hn x hx).1 ht hT _ rfl) (ht.setCell _ _) hT _ rfl, (hn x hx).2⟩, fun j u hu => ?_, fun b' o' e' => by obtain ⟨E, q1, q2⟩ := h4 b' o' e'; exact ⟨E, (q1.setCell _ _).setCell _ _, q2⟩⟩
  obtain ⟨g, o, ea, hx⟩ := hc j u hu
  refine ⟨g, o, ea, ?_⟩
  by_cases hgb : g = b
  · exfalso
    subst hgb
    have h3 := flatA_total M j u hu
    obtain ⟨g2, o2, ea2, hx2⟩ := hc _ _ (List.getElem?_eq_getElem h3)
    rw [ea] at ea2
    injection ea2 with ea2; injection ea2 with e1 e2; subst e1 e2
    simp only [World.cell?, hb] at hx2
    have := (Array.getElem?_eq_some_iff.1 hx2).1
    omega
  · rw [World.cell?_setCell_far _ _ _ _ (fun e => hgb e.symm), World.cell?_setCell_far _ _ _ _ (fun e => hgb e.symm), hx]
theorem feed_open {w : World} {q : Nat × ByteArray} {L : List Ac} {e : Ending} {w' : World} (h : FeedPost w (stPv q) L e w') : ∃ (g : Int) (t : ByteArray) (A : Option Addr) (c : Nat), e = .returned (.tuple #[.agg #[.int .i64 g, .string t], .slice A L.length c]) ∧ stPv q = .agg #[.int .i64 g, .string t] ∧ ActsV w' (.slice A L.length c) L ∧ Below w.heap.size w w' := by
  obtain ⟨v, rfl, ha, hb⟩ := h
  have ha2 := ha
  obtain ⟨A, c, M, rfl, r⟩ := ha
  exact ⟨q.1, q.2, A, c, rfl, rfl, ha2, hb⟩
theorem feed_shut {w W : World} {q : Nat × ByteArray} {L : List Ac} {g : Int} {t : ByteArray} {v : Value} (e : stPv q = .agg #[.int .i64 g, .string t]) (ha : ActsV W v L) (hb : Below w.heap.size w W) : FeedPost w (stPv q) L (.returned (.tuple #[.agg #[.int .i64 g, .string t], v])) W := by
  rw [e]; exact ⟨v, rfl, ha, hb⟩
theorem feed_0 (t : ByteArray) (x : Int) : feed (0, t) x = ground x := rfl
theorem feed_1 (t : ByteArray) (x : Int) : feed (1, t) x = inRune t x := rfl
theorem feed_2 (t : ByteArray) (x : Int) : feed (2, t) x = inSeq 2 t x := rfl
theorem feed_3 (t : ByteArray) (x : Int) : feed (3, t) x = inSeq 3 t x := rfl


set_option maxRecDepth 100000 in
set_option maxHeartbeats 2000000 in
theorem pfeed0_any (t : ByteArray) (x : Int) (w : World) (hT : UTabs w) (ht : t = ⟨#[]⟩) (h0 : 0 ≤ x) (h1 : x ≤ 255) :
    Calls Tryd.prog 29 #[.agg #[.int .i64 0, .string t], .int .u8 x] w (FeedPost w (stPv (ground x).1) (ground x).2) := by
  have HT := hide hT
  clear hT
  subst ht
  obtain ⟨q, L, hq⟩ : ∃ q L, (ground x) = (q, L) := ⟨_, _, rfl⟩
  have HC := hide (fun W hW => first_any x W hW h0 h1 : ∀ W, UTabs W → Calls Tryd.prog 49 #[.int .u8 x] W (FeedPost W (stPv (ground x).1) (ground x).2))
  rw [hq] at HC ⊢
  have H3 := hide (((Below.refl w.heap.size w).alloc (Nat.le_refl _) (.cells #[.int .i64 0, .string ⟨#[]⟩] 54)).alloc (by simp) (.cells #[.int .i64 0, .string ⟨#[]⟩] 54))
  have HA := hide (StBox.new (w.alloc (.cells #[.int .i64 0, .string ⟨#[]⟩] 54)) (.int .i64 0) (.string ⟨#[]⟩))
  have HB := hide (heap_alloc_new (w.alloc (.cells #[.int .i64 0, .string ⟨#[]⟩] 54)) (.cells #[.int .i64 0, .string ⟨#[]⟩] 54))
  rw [World.size_alloc] at HA HB
  clear hq
  go_enter Tryd.func29, Tryd.ntmps29
  go_wp2_with (first | (go_at_call 49; refine (HC.out _ (HT.out.below H3.out)).mono ?_; intro e w1 hpost; obtain ⟨g1, t1, A1, c1, rfl, hg, hacts, hb1⟩ := feed_open hpost; have HG := hide hg; have HA1 := hide (HA.out.below hb1); have HBL := hide ((hb1.block (w.heap.size + 1) (by simp)).trans HB.out); have HACT := hide hacts; have HB1 := hide (H3.out.trans (hb1.mono (by simp; omega))); clear hpost hb1 hacts hg; obtain ⟨q0, q1, q2, q3, -⟩ := HA1.out; have hzl : w.heap.size + 1 < w1.heap.size := HA1.out.lt) | fail)
  obtain ⟨r0, r1, -⟩ := HA1.out.set (.int .i64 g1) (.string t1)
  refine bodyPost_ret (v := .tuple #[.agg #[.int .i64 g1, .string t1], .slice A1 L.length c1]) ?_ rfl ?_
  · simp [results, Tryd.results29, go_sem, r0, r1]
  · exact feed_shut HG.out (acts_set2 HACT.out HBL.out rfl (by decide) _ _) ((HB1.out.setCell (p := ⟨w.heap.size + 1, 0, none⟩) (Nat.le_succ _) _).setCell (p := ⟨w.heap.size + 1, 1, none⟩) (Nat.le_succ _) _)

set_option maxRecDepth 100000 in
set_option maxHeartbeats 2000000 in
theorem pfeed1_any (t : ByteArray) (x : Int) (w : World) (hT : UTabs w) (ht : t.size ≤ 3) (h0 : 0 ≤ x) (h1 : x ≤ 255) :
    Calls Tryd.prog 29 #[.agg #[.int .i64 1, .string t], .int .u8 x] w (FeedPost w (stPv (inRune t x).1) (inRune t x).2) := by
  have HT := hide hT
  clear hT
  obtain ⟨q, L, hq⟩ : ∃ q L, (inRune t x) = (q, L) := ⟨_, _, rfl⟩
  have HC := hide (fun W hW => prune_any t x W hW ht h0 h1 : ∀ W, UTabs W → Calls Tryd.prog 50 #[.agg #[.int .i64 1, .string t], .int .u8 x] W (FeedPost W (stPv (inRune t x).1) (inRune t x).2))
  rw [hq] at HC ⊢
  have H3 := hide (((Below.refl w.heap.size w).alloc (Nat.le_refl _) (.cells #[.int .i64 1, .string t] 54)).alloc (by simp) (.cells #[.int .i64 0, .string ⟨#[]⟩] 54))
  have HA := hide (StBox.new (w.alloc (.cells #[.int .i64 1, .string t] 54)) (.int .i64 0) (.string ⟨#[]⟩))
  have HB := hide (heap_alloc_new (w.alloc (.cells #[.int .i64 1, .string t] 54)) (.cells #[.int .i64 0, .string ⟨#[]⟩] 54))
  rw [World.size_alloc] at HA HB
  clear hq
  go_enter Tryd.func29, Tryd.ntmps29
  go_wp2_with (first | (go_at_call 50; refine (HC.out _ (HT.out.below H3.out)).mono ?_; intro e w1 hpost; obtain ⟨g1, t1, A1, c1, rfl, hg, hacts, hb1⟩ := feed_open hpost; have HG := hide hg; have HA1 := hide (HA.out.below hb1); have HBL := hide ((hb1.block (w.heap.size + 1) (by simp)).trans HB.out); have HACT := hide hacts; have HB1 := hide (H3.out.trans (hb1.mono (by simp; omega))); clear hpost hb1 hacts hg; obtain ⟨q0, q1, q2, q3, -⟩ := HA1.out; have hzl : w.heap.size + 1 < w1.heap.size := HA1.out.lt) | fail)
  obtain ⟨r0, r1, -⟩ := HA1.out.set (.int .i64 g1) (.string t1)
  refine bodyPost_ret (v := .tuple #[.agg #[.int .i64 g1, .string t1], .slice A1 L.length c1]) ?_ rfl ?_
  · simp [results, Tryd.results29, go_sem, r0, r1]
  · exact feed_shut HG.out (acts_set2 HACT.out HBL.out rfl (by decide) _ _) ((HB1.out.setCell (p := ⟨w.heap.size + 1, 0, none⟩) (Nat.le_succ _) _).setCell (p := ⟨w.heap.size + 1, 1, none⟩) (Nat.le_succ _) _)

set_option maxRecDepth 100000 in
set_option maxHeartbeats 2000000 in
theorem pfeed2_any (t : ByteArray) (x : Int) (w : World) (hT : UTabs w) (ht : t.size ≤ 100000) (h0 : 0 ≤ x) (h1 : x ≤ 255) :
    Calls Tryd.prog 29 #[.agg #[.int .i64 2, .string t], .int .u8 x] w (FeedPost w (stPv (inSeq 2 t x).1) (inSeq 2 t x).2) := by
  have HT := hide hT
  clear hT
  obtain ⟨q, L, hq⟩ : ∃ q L, (inSeq 2 t x) = (q, L) := ⟨_, _, rfl⟩
  have HC := hide (fun W hW => pseq2_any t x W ht h0 h1 : ∀ W, UTabs W → Calls Tryd.prog 51 #[.agg #[.int .i64 2, .string t], .int .u8 x] W (FeedPost W (stPv (inSeq 2 t x).1) (inSeq 2 t x).2))
  rw [hq] at HC ⊢
  have H3 := hide (((Below.refl w.heap.size w).alloc (Nat.le_refl _) (.cells #[.int .i64 2, .string t] 54)).alloc (by simp) (.cells #[.int .i64 0, .string ⟨#[]⟩] 54))
  have HA := hide (StBox.new (w.alloc (.cells #[.int .i64 2, .string t] 54)) (.int .i64 0) (.string ⟨#[]⟩))
  have HB := hide (heap_alloc_new (w.alloc (.cells #[.int .i64 2, .string t] 54)) (.cells #[.int .i64 0, .string ⟨#[]⟩] 54))
  rw [World.size_alloc] at HA HB
  clear hq
  go_enter Tryd.func29, Tryd.ntmps29
  go_wp2_with (first | (go_at_call 51; refine (HC.out _ (HT.out.below H3.out)).mono ?_; intro e w1 hpost; obtain ⟨g1, t1, A1, c1, rfl, hg, hacts, hb1⟩ := feed_open hpost; have HG := hide hg; have HA1 := hide (HA.out.below hb1); have HBL := hide ((hb1.block (w.heap.size + 1) (by simp)).trans HB.out); have HACT := hide hacts; have HB1 := hide (H3.out.trans (hb1.mono (by simp; omega))); clear hpost hb1 hacts hg; obtain ⟨q0, q1, q2, q3, -⟩ := HA1.out; have hzl : w.heap.size + 1 < w1.heap.size := HA1.out.lt) | fail)
  obtain ⟨r0, r1, -⟩ := HA1.out.set (.int .i64 g1) (.string t1)
  refine bodyPost_ret (v := .tuple #[.agg #[.int .i64 g1, .string t1], .slice A1 L.length c1]) ?_ rfl ?_
  · simp [results, Tryd.results29, go_sem, r0, r1]
  · exact feed_shut HG.out (acts_set2 HACT.out HBL.out rfl (by decide) _ _) ((HB1.out.setCell (p := ⟨w.heap.size + 1, 0, none⟩) (Nat.le_succ _) _).setCell (p := ⟨w.heap.size + 1, 1, none⟩) (Nat.le_succ _) _)

set_option maxRecDepth 100000 in
set_option maxHeartbeats 2000000 in
theorem pfeed3_any (t : ByteArray) (x : Int) (w : World) (hT : UTabs w) (ht : t.size ≤ 100000) (h0 : 0 ≤ x) (h1 : x ≤ 255) :
    Calls Tryd.prog 29 #[.agg #[.int .i64 3, .string t], .int .u8 x] w (FeedPost w (stPv (inSeq 3 t x).1) (inSeq 3 t x).2) := by
  have HT := hide hT
  clear hT
  obtain ⟨q, L, hq⟩ : ∃ q L, (inSeq 3 t x) = (q, L) := ⟨_, _, rfl⟩
  have HC := hide (fun W hW => pseq3_any t x W ht h0 h1 (hide (fun W => pparams_any t W ht)) : ∀ W, UTabs W → Calls Tryd.prog 51 #[.agg #[.int .i64 3, .string t], .int .u8 x] W (FeedPost W (stPv (inSeq 3 t x).1) (inSeq 3 t x).2))
  rw [hq] at HC ⊢
  have H3 := hide (((Below.refl w.heap.size w).alloc (Nat.le_refl _) (.cells #[.int .i64 3, .string t] 54)).alloc (by simp) (.cells #[.int .i64 0, .string ⟨#[]⟩] 54))
  have HA := hide (StBox.new (w.alloc (.cells #[.int .i64 3, .string t] 54)) (.int .i64 0) (.string ⟨#[]⟩))
  have HB := hide (heap_alloc_new (w.alloc (.cells #[.int .i64 3, .string t] 54)) (.cells #[.int .i64 0, .string ⟨#[]⟩] 54))
  rw [World.size_alloc] at HA HB
  clear hq
  go_enter Tryd.func29, Tryd.ntmps29
  go_wp2_with (first | (go_at_call 51; refine (HC.out _ (HT.out.below H3.out)).mono ?_; intro e w1 hpost; obtain ⟨g1, t1, A1, c1, rfl, hg, hacts, hb1⟩ := feed_open hpost; have HG := hide hg; have HA1 := hide (HA.out.below hb1); have HBL := hide ((hb1.block (w.heap.size + 1) (by simp)).trans HB.out); have HACT := hide hacts; have HB1 := hide (H3.out.trans (hb1.mono (by simp; omega))); clear hpost hb1 hacts hg; obtain ⟨q0, q1, q2, q3, -⟩ := HA1.out; have hzl : w.heap.size + 1 < w1.heap.size := HA1.out.lt) | fail)
  obtain ⟨r0, r1, -⟩ := HA1.out.set (.int .i64 g1) (.string t1)
  refine bodyPost_ret (v := .tuple #[.agg #[.int .i64 g1, .string t1], .slice A1 L.length c1]) ?_ rfl ?_
  · simp [results, Tryd.results29, go_sem, r0, r1]
  · exact feed_shut HG.out (acts_set2 HACT.out HBL.out rfl (by decide) _ _) ((HB1.out.setCell (p := ⟨w.heap.size + 1, 0, none⟩) (Nat.le_succ _) _).setCell (p := ⟨w.heap.size + 1, 1, none⟩) (Nat.le_succ _) _)

/-- parser.Feed. -/
theorem pfeed_any (k : Nat) (p : Nat × ByteArray) (x : Int) (w : World) (hk : k ≤ 90000) (hT : UTabs w) (hp : StOk k p) (h0 : 0 ≤ x) (h1 : x ≤ 255) :
    Calls Tryd.prog 29 #[stPv p, .int .u8 x] w (FeedPost w (stPv (feed p x).1) (feed p x).2) := by
  obtain ⟨a, t⟩ := p
  rcases hp with ⟨e, hp⟩ | ⟨e, hp, hp2, hp3⟩ | ⟨e, hp⟩ | ⟨e, hp⟩
  · obtain rfl : a = 0 := e
    exact pfeed0_any t x w hT (size0 hp) h0 h1
  · obtain rfl : a = 1 := e
    exact pfeed1_any t x w hT hp2 h0 h1
  · obtain rfl : a = 2 := e
    exact pfeed2_any t x w hT (by have : t.size = 0 := hp; omega) h0 h1
  · obtain rfl : a = 3 := e
    exact pfeed3_any t x w hT (by have : t.size ≤ k := hp; omega) h0 h1
end Go.Proofs.YtmemdhmjhckmaaaDoor
