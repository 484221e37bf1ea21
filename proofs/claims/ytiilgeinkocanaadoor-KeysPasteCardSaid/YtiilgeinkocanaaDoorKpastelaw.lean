/- The walk of KeysPaste. -/
import Derived.Test.YtiilgeinkocanaaDoorKboth
import Derived.Deep.RegionHeld3
namespace Go.Proofs.YtiilgeinkocanaaDoor
open Go.RowKit

/-- A decoder with its keys so far, and the document's at the beginning. -/
structure TQ (w : World) (D R : Nat) (st : KS) (v : Value) (L : List Ky) (W : World) : Prop where
  dec : ∃ F, DecAt W D F st ∧ AllGe w.heap.size F ∧ R ∉ F
  own : OwnK W w.heap.size v L
  low : Below w.heap.size w W
  ref : Blk W R 36 (rB ⟨#[]⟩ false (.slice none 0 0))
theorem TQ.below {w W W1 : World} {D R : Nat} {st : KS} {v : Value} {L : List Ky} (h : TQ w D R st v L W) (hb : Below W.heap.size W W1) : TQ w D R st v L W1 := by
  obtain ⟨F, h1, h2, h3⟩ := h.dec
  exact ⟨⟨F, h1.keep (fun k hk => hb.block k (h1.lt k hk)), h2, h3⟩, h.own.below hb, h.low.trans (hb.mono h.low.size), h.ref.below hb⟩
theorem TQ.step {w W W1 W2 : World} {D R : Nat} {st st' : KS} {v v2 : Value} {L N : List Ky} {F : List Nat} (h : TQ w D R st v L W) (hdec : DecAt W D F st) (hge : AllGe w.heap.size F) (hR : R ∉ F)
    (hF : ∃ F', DecAt W1 D F' st' ∧ ∀ k ∈ F', k ∈ F ∨ W.heap.size ≤ k) (hx : Ex F W W1) (hown2 : OwnK W2 w.heap.size v2 (L ++ N)) (hg : W1.grownBy W2 v.ownBlock) : TQ w D R st' v2 (L ++ N) W2 := by
  obtain ⟨F', h1, h2⟩ := hF
  have hB := h.low.size
  have hown1 : OwnK W1 w.heap.size v L := h.own.stays hx (hdec.off h.own)
  have href1 : Blk W1 R 36 (rB ⟨#[]⟩ false (.slice none 0 0)) := hx.blk h.ref hR
  refine ⟨⟨F', h1.keep (fun k hk => hg.block k (h1.lt k hk) (fun e => h1.off hown1 k e.symm hk)), fun k hk => (h2 k hk).elim (hge k) (fun h => Nat.le_trans hB h), fun hm => ?_⟩, hown2, ?_, href1.keep hg (hown1.ne href1 refKey)⟩
  · rcases h2 R hm with h3 | h3
    · exact hR h3
    · have := h.ref.lt; omega
  · exact (Ex.low h.low hx hge hB).grown hg (Nat.le_trans hB hx.size) (own_ge h.own)
theorem TQ.ps {w W : World} {D R : Nat} {v : Value} {L : List Ky} (h : TQ w D R startK v L W) (hR : w.heap.size ≤ R) : PS w D R startK W := by
  obtain ⟨F, h1, h2, h3⟩ := h.dec
  exact ⟨⟨F, [R], h1, .inl ⟨rfl, rfl, h.ref⟩, h2, fun k hk => by rw [List.mem_singleton.1 hk]; exact hR, fun k hk hm => h3 (by rw [← List.mem_singleton.1 hm]; exact hk)⟩, h.low⟩
theorem TQ.start (w : World) : TQ w w.heap.size (w.heap.size + 1) startK (.slice none 0 0) [] ((w.alloc (.cells #[.iface 9 (.string ⟨#[]⟩)] 46)).alloc (.cells #[.string ⟨#[]⟩, .bool false, .slice none 0 0] 36)) := by
  have hb : Below w.heap.size w ((w.alloc (.cells #[.iface 9 (.string ⟨#[]⟩)] 46)).alloc (.cells #[.string ⟨#[]⟩, .bool false, .slice none 0 0] 36)) := ((Below.refl _ _).alloc (Nat.le_refl _) _).alloc (by simp) _
  have hR := Blk.new (w.alloc (.cells #[.iface 9 (.string ⟨#[]⟩)] 46)) 36 (rB ⟨#[]⟩ false (.slice none 0 0))
  rw [World.size_alloc] at hR
  exact ⟨⟨[w.heap.size], (DecAt.new w).keep (fun k hk => Below.heap_alloc _ _ _ (by rw [List.mem_singleton.1 hk]; simp)), fun k hk => by rw [List.mem_singleton.1 hk]; exact Nat.le_refl _, by simp⟩, OwnK.nil _ _, hb, hR⟩
/-- One feed of the decoder's. -/
theorem TQ.feed {w W : World} {D R : Nat} {st : KS} {v : Value} {L : List Ky} (h : TQ w D R st v L W) (hU : UTabs w) (hT : WTabs w) (x : Int) (h0 : 0 ≤ x) (h1 : x ≤ 255) (hz : st.2.size ≤ 900000) :
    Calls Tryd.prog 15 #[.pointer (some ⟨D, 0, none⟩), .int .u8 x] W fun e W1 => ∃ u, e = .returned u ∧ KeysV W1 u (feedK st x).2 ∧ OwnK W1 w.heap.size v L ∧ w.heap.size ≤ W1.heap.size ∧ ∀ v2 W2, OwnK W2 w.heap.size v2 (L ++ (feedK st x).2) → W1.grownBy W2 v.ownBlock → TQ w D R (feedK st x).1 v2 (L ++ (feedK st x).2) W2 := by
  obtain ⟨F, a1, a2, a3⟩ := h.dec
  refine (feed_any D F st x W (hU.below h.low) (hT.below h.low) h0 h1 (a2.safe hU hT (Nat.le_refl _)) (by omega) a1).mono ?_
  rintro e W1 ⟨u, rfl, ho, hn, hF, hx⟩
  exact ⟨u, rfl, ho.keys hn, h.own.stays hx (a1.off h.own), Nat.le_trans h.low.size hx.size, fun v2 W2 h3 h4 => h.step a1 a2 a3 hF hx h3 h4⟩
theorem TQ.tick {w W : World} {D R : Nat} {st : KS} {v : Value} {L : List Ky} (h : TQ w D R st v L W) :
    Calls Tryd.prog 18 #[.pointer (some ⟨D, 0, none⟩)] W fun e W1 => ∃ u, e = .returned u ∧ KeysV W1 u (tickK st).2 ∧ OwnK W1 w.heap.size v L ∧ w.heap.size ≤ W1.heap.size ∧ ∀ v2 W2, OwnK W2 w.heap.size v2 (L ++ (tickK st).2) → W1.grownBy W2 v.ownBlock → TQ w D R (tickK st).1 v2 (L ++ (tickK st).2) W2 := by
  obtain ⟨F, a1, a2, a3⟩ := h.dec
  refine (tick_any D F st W a1).mono ?_
  rintro e W1 ⟨u, rfl, ho, hn, hF, hx⟩
  exact ⟨u, rfl, ho.keys hn, h.own.stays hx (a1.off h.own), Nat.le_trans h.low.size hx.size, fun v2 W2 h3 h4 => h.step a1 a2 a3 hF hx h3 h4⟩
theorem TQ.form {w W : World} {D R : Nat} {st : KS} {v : Value} {L : List Ky} (h : TQ w D R st v L W) : ∃ A c, v = .slice A L.length c := h.own.form
theorem pasteS_end (t : ByteArray) (k : Nat) : pasteS t k (k + 6) = startK := by unfold pasteS; rw [if_neg (by omega)]
theorem pasteOut_end (t : ByteArray) (k : Nat) : pasteOut t k (k + 6) = [⟨15, 0, cleanK (t.extract 0 k)⟩] := by unfold pasteOut; rw [if_neg (by omega)]
theorem pasteOut_nil {t : ByteArray} {k i : Nat} (h : i < k + 6) : pasteOut t k i = [] := by unfold pasteOut; rw [if_pos h]
theorem pasteOut_len (t : ByteArray) (k i : Nat) : (pasteOut t k i).length ≤ 1 := by unfold pasteOut; split <;> simp
theorem pasteS_size (t : ByteArray) (k i : Nat) : (pasteS t k i).2.size ≤ t.size := by
  unfold pasteS
  split
  · show (t.extract 0 i).size ≤ _
    rw [ByteArray.size_extract]; omega
  · exact Nat.zero_le _
set_option maxRecDepth 100000 in
set_option maxHeartbeats 8000000 in
theorem keysPaste_walk (s S : ByteArray) (tk : Bool) (w : World) (hs : s.size ≤ 9223372036854775807) (hS : S.size ≤ 9223372036854775807) (hU : UTabs w) (hT : WTabs w) : Calls Tryd.prog 5 #[.string s, .agg #[.string S, .bool tk]] w fun e w' => e = .returned (.bool true) ∧ Below w.heap.size w w' := by
  have HP := hide (fun W (hW : Below w.heap.size w W) => pressed_any W (hU.below hW) (hT.below hW))
  have hbx := (Blk.new w 38 [.string S, .bool tk]).cell (i := 0) rfl
  by_cases h1 : 1500 < s.size
  · have h1' : (1500 : Int) < (s.size : Int) := by omega
    go_enter Tryd.func5, Tryd.ntmps5
    go_wp2_with fail
    refine (HP.out _ ((Below.refl w.heap.size w).alloc (Nat.le_refl _) _)).mono ?_
    rintro e w1 ⟨rfl, hb1⟩
    have HB1 := hide (((Below.refl w.heap.size w).alloc (Nat.le_refl _) (.cells #[.string S, .bool tk] 38)).trans (hb1.mono (by simp)))
    clear hb1
    go_wp2_with fail
    go_ret
    exact ⟨rfl, HB1.out⟩
  by_cases h2 : 300 < S.size
  · have h2' : (300 : Int) < (S.size : Int) := by omega
    go_enter Tryd.func5, Tryd.ntmps5
    go_wp2_with fail
    refine (HP.out _ ((Below.refl w.heap.size w).alloc (Nat.le_refl _) _)).mono ?_
    rintro e w1 ⟨rfl, hb1⟩
    have HB1 := hide (((Below.refl w.heap.size w).alloc (Nat.le_refl _) (.cells #[.string S, .bool tk] 38)).trans (hb1.mono (by simp)))
    clear hb1
    go_wp2_with fail
    go_ret
    exact ⟨rfl, HB1.out⟩
  have hb0 := (Below.refl w.heap.size w).alloc (Nat.le_refl _) (.cells #[.string S, .bool tk] 38)
  obtain ⟨wb, hwb⟩ : ∃ wb, w.alloc (.cells #[.string S, .bool tk] 38) = wb := ⟨_, rfl⟩
  have HBX := hide (show wb.cell? ⟨w.heap.size, 0, none⟩ = some (.string S) by rw [← hwb]; exact hbx)
  have HLT := hide (show w.heap.size < wb.heap.size by rw [← hwb]; simp)
  rw [hwb] at hb0
  have HB0 := hide hb0
  have hUb := hU.below hb0
  have hTb := hT.below hb0
  have hbx2 := HBX.out
  have HFDQ := hide (fun (D R : Nat) (st : KS) (v : Value) (L : List Ky) (W : World) (h : TQ wb D R st v L W) (x : Int) (h0 : 0 ≤ x) (h1 : x ≤ 255) (hz : st.2.size ≤ 900000) => h.feed hUb hTb x h0 h1 hz)
  have HFPS := hide (fun (D R : Nat) (st : KS) (W : World) (h : PS wb D R st W) (x : Int) (h0 : 0 ≤ x) (h1 : x ≤ 255) (hz : st.2.size ≤ 900000) => h.feed hUb hTb x h0 h1 hz)
  clear hU hT hUb hTb hb0 hbx
  obtain ⟨T, hTT⟩ : ∃ T, s ++ (⟨#[27, 91, 50, 48, 49, 126]⟩ : ByteArray) = T := ⟨_, rfl⟩
  have HTZ := hide (show T.size = s.size + 6 by rw [← hTT, join_size]; rfl)
  have HEB := hide (show endAt T s.size = true by rw [← hTT]; exact end_behind s)
  go_enter Tryd.func5, Tryd.ntmps5
  go_wp2_with fail
  have HTT := hide hTT
  clear hTT
  go_loop [5] (fun i => ∃ k : Nat, i = .int .i64 k ∧ k ≤ s.size ∧ Hid (∀ j, j < k → endAt T j = false)) (fun i => s.size - (intOf i).toNat)
  case atStart => exact ⟨0, rfl, by omega, hide (fun j hj => absurd hj (Nat.not_lt_zero j))⟩
  case round =>
    obtain ⟨k, rfl, hk, HNO⟩ := hrel
    have hTz : T.size = s.size + 6 := HTZ.out
    have hex : (T.extract k (k + 6)).size = 6 := by rw [ByteArray.size_extract]; omega
    have hend : endAt T k = decide (T.extract k (k + 6) = endS) := by unfold endAt; rw [Bool.eq_iff_iff]; simp; intro _; omega
    obtain ⟨E, hE⟩ : ∃ E, T.extract k (k + 6) = E := ⟨_, rfl⟩
    rw [hE] at hend
    have b1 : (k : Int) + 6 ≤ (T.size : Int) := by omega
    by_cases hgo : k < s.size ∧ endAt T k = false
    · obtain ⟨hlt, hf⟩ := hgo
      have he : (E.toList == [27, 91, 50, 48, 49, 126]) = false := str_eqK (show decide (E = endS) = false by rw [← hend]; exact hf)
      have HN2 := hide (show ∀ j, j < k + 1 → endAt T j = false from fun j hj => by
        by_cases e : j = k
        · rw [e]; exact hf
        · exact HNO.out j (by omega))
      have b2 : (k : Int) + 6 < (T.size : Int) := by omega
      clear hTz hex hend hf
      go_wp2_with fail
      go_round
      case rel => exact ⟨k + 1, by go_num, by omega, HN2⟩
      case measure => simp [intOf]; omega
    have HEND := hide (show endAt T k = true by
      by_cases hlt : k < s.size
      · cases hc : endAt T k
        · exact absurd ⟨hlt, hc⟩ hgo
        · rfl
      · have : k = s.size := by omega
        rw [this]; exact HEB.out)
    have he : (E.toList == [27, 91, 50, 48, 49, 126]) = true := str_eqK (show decide (E = endS) = true by rw [← hend]; exact HEND.out)
    have HPF := hide (fun i hi => paste_feed (t := T) (at_ := k) (k := i) HEND.out HNO.out hi (by omega))
    have hkT : k + 6 ≤ T.size := by omega
    have hT9 : T.size ≤ 1506 := by omega
    clear hex hend hgo hTz
    by_cases hlt : (k : Int) + 6 < (T.size : Int)
    all_goals
      go_wp2_with fail
      refine (new_any wb).mono ?_
      rintro e w1 ⟨rfl, rfl⟩
      have HTQ0 := hide (TQ.start wb)
      clear he hE
      obtain ⟨bg, hbg⟩ : ∃ bg : ByteArray, (⟨#[27, 91, 50, 48, 48, 126]⟩ : ByteArray) = bg := ⟨_, rfl⟩
      have HBG := hide hbg
      have hbz : bg.size = 6 := by rw [← hbg]; rfl
      clear hbg
      go_wp2_with fail
      rw [HBG.out]
      go_loopw [9, 12] (fun v i wr => ∃ (q : Nat) (A : Option Addr) (n c : Nat), v = .slice A n c ∧ i = .int .i64 q ∧ q ≤ bg.size ∧ n ≤ 2 * q ∧ Hid (TQ wb wb.heap.size (wb.heap.size + 1) (runK startK (bg.data.toList.take q)).1 (.slice A n c) (runK startK (bg.data.toList.take q)).2 wr) ∧ Hid (n = (runK startK (bg.data.toList.take q)).2.length)) (fun _ i _ => bg.size - (intOf i).toNat)
      case atStart => exact ⟨0, none, 0, 0, rfl, rfl, by omega, by omega, HTQ0, hide (by simp [runK])⟩
      case round =>
        clear HTQ0
        obtain ⟨q, A, n, c, rfl, rfl, hq, hn, H, HN⟩ := hrel
        by_cases hqb : q < bg.size
        · have HRT := hide (run_take hqb startK)
          have HSZ := hide (show (runK startK (bg.data.toList.take q)).1.2.size ≤ 400000 by have := run_size startK (bg.data.toList.take q); rw [List.length_take] at this; have e : startK.2.size = 0 := rfl; omega)
          obtain ⟨st, hst⟩ : ∃ st, (runK startK (bg.data.toList.take q)).1 = st := ⟨_, rfl⟩
          obtain ⟨L, hL⟩ : ∃ L, (runK startK (bg.data.toList.take q)).2 = L := ⟨_, rfl⟩
          rw [hst, hL] at HRT H
          rw [hst] at HSZ
          rw [hL] at HN
          clear hst hL
          have hb0 := (bg[q]).toNat_lt
          have HFD := hide (HFDQ.out _ _ st _ L wr H.out (bg[q].toNat : Int) (by omega) (by omega) (by have := HSZ.out; omega))
          have HFK := hide (feed_keys st (bg[q].toNat : Int))
          clear hb0
          go_wp2_with fail
          refine HFD.out.mono ?_
          rintro e w2 ⟨u, rfl, hku, ho1, hB2, hst⟩
          have HKU := hide hku
          have HO1 := hide ho1
          have HST := hide hst
          clear hku ho1 hst
          go_wp2_with (at_builtin; refine wpList_keys w2 rfl (.tmp 51) (.tmp 56) rfl wb.heap.size hB2 _ _ _ _ rfl rfl HO1.out HKU.out (by have := HN.out; have := HFK.out; omega) ?_; intro v2 w3 hown hg hb2 hnil; have HTQ := hide (HST.out _ _ hown hg); obtain ⟨A2, c2, hv2⟩ := hown.form; obtain ⟨m2, hm2⟩ : ∃ m, (L ++ (feedK st (bg[q].toNat : Int)).2).length = m := ⟨_, rfl⟩; rw [hm2] at hv2; subst hv2; have HM2 := hide hm2; clear hown hg hb2 hnil hm2)
          go_roundw
          case rel => exact ⟨q + 1, A2, m2, c2, rfl, by go_num, by omega, by rw [← HM2.out, List.length_append]; have := HN.out; have := HFK.out; omega, hide (by rw [HRT.out]; exact HTQ.out), hide (by rw [HRT.out]; exact HM2.out.symm)⟩
          case measure => simp [intOf]; omega
        · obtain rfl : q = bg.size := by omega
          have HRB := hide (show runK startK bg.data.toList = ((true, ⟨#[]⟩), []) by rw [← HBG.out]; exact runK_begin)
          rw [run_all, HRB.out] at H HN
          have hn0 : n = 0 := HN.out
          subst hn0
          have HQ0 := hide (show TQ wb wb.heap.size (wb.heap.size + 1) (pasteS T k 0) (.slice A 0 c) (pasteOut T k 0) wr by rw [pasteS_0, pasteOut_nil (by omega)]; exact H.out)
          clear H HN hbz hq hqb hn
          go_wp2_with fail
          go_loopw [9, 13] (fun v i wq => ∃ (q : Nat) (A : Option Addr) (n c : Nat), v = .slice A n c ∧ i = .int .i64 q ∧ q ≤ k + 6 ∧ n ≤ 1 ∧ Hid (TQ wb wb.heap.size (wb.heap.size + 1) (pasteS T k q) (.slice A n c) (pasteOut T k q) wq) ∧ Hid (n = (pasteOut T k q).length)) (fun _ i _ => k + 6 - (intOf i).toNat)
          case atStart => exact ⟨0, A, 0, c, rfl, rfl, by omega, by omega, HQ0, hide (by rw [pasteOut_nil (by omega)]; rfl)⟩
          case round =>
            clear HQ0
            obtain ⟨q, A, n, c, rfl, rfl, hq, hn, H, HN⟩ := hrel
            by_cases hqk : q < k + 6
            · have hqi : (q : Int) < (k : Int) + 6 := by omega
              have hqT : q < T.size := by omega
              have hpf := HPF.out q hqk
              rw [get_of hqT] at hpf
              have hL0 : pasteOut T k q = [] := pasteOut_nil hqk
              have HSZ := hide (pasteS_size T k q)
              have hb0 := (T[q]).toNat_lt
              have HFD := hide (HFDQ.out _ _ _ _ _ wr H.out (T[q].toNat : Int) (by omega) (by omega) (by have := HSZ.out; omega))
              rw [hpf, hL0, List.nil_append] at HFD
              have HOL := hide (pasteOut_len T k (q + 1))
              have HPT := hide (paste_tick T k (q + 1))
              clear hb0 hpf hL0
              obtain ⟨P1, hP1⟩ : ∃ P1, pasteS T k (q + 1) = P1 := ⟨_, rfl⟩
              obtain ⟨L1, hL1⟩ : ∃ L1, pasteOut T k (q + 1) = L1 := ⟨_, rfl⟩
              rw [hP1, hL1] at HFD
              rw [hP1] at HPT
              rw [hL1] at HOL
              have HP1 := hide hP1
              have HL1 := hide hL1
              clear hP1 hL1
              by_cases hm : q % 7 = 3
              · have hm1 : (Int.tmod (q : Int) 7 == 3) = true := by rw [Int.tmod_eq_emod_of_nonneg (by omega)]; simp; omega
                have hm2 : ((q : Int) % 7 == 3) = true := by simp; omega
                go_wp2_with fail
                refine HFD.out.mono ?_
                rintro e w2 ⟨u, rfl, hku, ho1, hB2, hst⟩
                have HKU := hide hku
                have HO1 := hide ho1
                have HST := hide hst
                clear hku ho1 hst
                go_wp2_with (at_builtin; refine wpList_keys w2 rfl (.tmp 64) (.tmp 69) rfl wb.heap.size hB2 _ _ _ _ rfl rfl HO1.out HKU.out (by have := HOL.out; simp; omega) ?_; intro v2 w3 hown hg hb2 hnil; have HTQ := hide (HST.out _ _ hown hg); obtain ⟨A2, c2, hv2⟩ := hown.form; obtain ⟨m2, hm2⟩ : ∃ m, (L1).length = m := ⟨_, rfl⟩; rw [show ([] ++ L1 : List Ky) = L1 from rfl, hm2] at hv2; subst hv2; have HM2 := hide hm2; clear hown hg hb2 hnil hm2)
                have HTD := hide HTQ.out.tick
                rw [HPT.out, List.append_nil] at HTD
                go_wp2_with fail
                refine HTD.out.mono ?_
                rintro e w4 ⟨u4, rfl, hku, ho1, hB4, hst⟩
                have HKU4 := hide hku
                have HO4 := hide ho1
                have HST4 := hide hst
                clear hku ho1 hst
                go_wp2_with (at_builtin; refine wpList_keys w4 rfl (.tmp 74) (.tmp 76) rfl wb.heap.size hB4 _ _ _ _ rfl rfl HO4.out HKU4.out (by have := HOL.out; simp; omega) ?_; intro v5 w5 hown hg hb2 hnil; replace hown : OwnK w5 wb.heap.size v5 L1 := (by simpa using hown); have HTQ5 := hide (HST4.out _ _ hown hg); obtain ⟨A3, c3, hv3⟩ := hown.form; obtain ⟨m3, hm3⟩ : ∃ m, L1.length = m := ⟨_, rfl⟩; rw [hm3] at hv3; subst hv3; have HM3 := hide hm3; clear hown hg hb2 hnil hm3)
                go_roundw
                case rel => exact ⟨q + 1, A3, m3, c3, rfl, by go_num, by omega, by rw [← HM3.out]; exact HOL.out, hide (by rw [HP1.out, HL1.out]; exact HTQ5.out), hide (by rw [HL1.out]; exact HM3.out.symm)⟩
                case measure => simp [intOf]; omega
              · have hm1 : (Int.tmod (q : Int) 7 == 3) = false := by rw [Int.tmod_eq_emod_of_nonneg (by omega)]; simp; omega
                have hm2 : ((q : Int) % 7 == 3) = false := by simp; omega
                go_wp2_with fail
                refine HFD.out.mono ?_
                rintro e w2 ⟨u, rfl, hku, ho1, hB2, hst⟩
                have HKU := hide hku
                have HO1 := hide ho1
                have HST := hide hst
                clear hku ho1 hst
                go_wp2_with (at_builtin; refine wpList_keys w2 rfl (.tmp 64) (.tmp 69) rfl wb.heap.size hB2 _ _ _ _ rfl rfl HO1.out HKU.out (by have := HOL.out; simp; omega) ?_; intro v2 w3 hown hg hb2 hnil; have HTQ := hide (HST.out _ _ hown hg); obtain ⟨A2, c2, hv2⟩ := hown.form; obtain ⟨m2, hm2⟩ : ∃ m, (L1).length = m := ⟨_, rfl⟩; rw [show ([] ++ L1 : List Ky) = L1 from rfl, hm2] at hv2; subst hv2; have HM2 := hide hm2; clear hown hg hb2 hnil hm2)
                go_roundw
                case rel => exact ⟨q + 1, A2, m2, c2, rfl, by go_num, by omega, by rw [← HM2.out]; exact HOL.out, hide (by rw [HP1.out, HL1.out]; exact HTQ.out), hide (by rw [HL1.out]; exact HM2.out.symm)⟩
                case measure => simp [intOf]; omega
            · obtain rfl : q = k + 6 := by omega
              rw [pasteS_end, pasteOut_end] at H
              rw [pasteOut_end] at HN
              have hn1 : n = 1 := HN.out
              subst hn1
              have hqi : ¬ (k : Int) + 6 < (k : Int) + 6 := by omega
              clear HN hn hq HPF
              obtain ⟨C, hC⟩ : ∃ C, T.extract 0 k = C := ⟨_, rfl⟩
              rw [hC] at H
              have HCS := hide (show C.size ≤ 1000000 by rw [← hC, ByteArray.size_extract]; omega)
              have k1 : (k : Int) ≤ (T.size : Int) := by omega
              have k2 : k ≤ T.size := by omega
              go_wp2_with fail
              refine (rclean_any C _ HCS.out).mono ?_
              rintro e w5 ⟨rfl, hb5⟩
              clear hC
              have HQ5 := hide (H.out.below hb5)
              clear hb5
              have HLK := hide (lit_keys w5 [⟨15, 0, cleanK C⟩] (by simp))
              have hA5 := (Below.refl w5.heap.size w5).alloc (Nat.le_refl _) (.cells #[.int .i64 15, .int .i32 0, .string (cleanK C)] 26)
              have HQ6 := hide (HQ5.out.below hA5)
              clear hA5
              obtain ⟨W6, hW6⟩ : ∃ W6, w5.alloc (.cells #[.int .i64 15, .int .i32 0, .string (cleanK C)] 26) = W6 := ⟨_, rfl⟩
              replace HLK := hide (show KeysV W6 (.slice (some ⟨w5.heap.size, 0, none⟩) 1 1) [⟨15, 0, cleanK C⟩] by rw [← hW6]; exact HLK.out)
              rw [hW6] at HQ6
              have HW6 := hide hW6
              clear hW6
              go_wp2_with (rw [HW6.out]; at_builtin; refine wpList_keys W6 rfl (.tmp 78) (.tmp 84) rfl W6.heap.size (Nat.le_refl _) _ _ _ _ rfl rfl (OwnK.nil _ _) HLK.out (by simp) ?_; intro v7 w7 hown hg hb2 hnil; have HOW := hide (hown.keys (fun e => by cases e)); have HQ7 := hide (HQ6.out.below hb2); clear hown hg hb2 hnil)
              refine (same_any _ _ _ _ _ (HQ7.out.own.keys (fun e => by cases e)) HOW.out (by simp) (by simp)).mono ?_
              rintro e w8 ⟨rfl, hb8⟩
              rw [show decide (([⟨15, 0, cleanK C⟩] : List Ky) = [] ++ [⟨15, 0, cleanK C⟩]) = true from decide_eq_true rfl]
              have HQ8 := hide (HQ7.out.below hb8)
              clear hb8
              have HPS8 := hide (HQ8.out.ps (by omega))
              go_wp2_with fail
              refine HPS8.out.wait.mono ?_
              rintro e w9 ⟨rfl, hw9⟩
              rw [show waitsK startK = false from rfl]
              subst hw9
              have HBC := hide (fun W (hW : Below wb.heap.size wb W) => (show W.cell? ⟨w.heap.size, 0, none⟩ = some (.string S) from (hW.cell (p := ⟨w.heap.size, 0, none⟩) HLT.out).trans HBX.out))
              clear hbx2 HQ8 HQ7 HOW HLK HQ6 HQ5 H
              go_wp2_with fail
              go_loopw [14] (fun i wr => ∃ q : Nat, i = .int .i64 q ∧ q ≤ S.size ∧ Hid (PS wb wb.heap.size (wb.heap.size + 1) (runK startK (S.data.toList.take q)).1 wr)) (fun i _ => S.size - (intOf i).toNat)
              case atStart => exact ⟨0, rfl, by omega, HPS8⟩
              case round =>
                clear HPS8
                obtain ⟨q, rfl, hq, HPS⟩ := hrel
                have hc0 := HBC.out _ HPS.out.low
                by_cases hqS : q < S.size
                · have HRT := hide (run_take hqS startK)
                  have HSZ := hide (show (runK startK (S.data.toList.take q)).1.2.size ≤ 400000 by have := run_size startK (S.data.toList.take q); rw [List.length_take] at this; have e : startK.2.size = 0 := rfl; omega)
                  obtain ⟨st, hst⟩ : ∃ st, (runK startK (S.data.toList.take q)).1 = st := ⟨_, rfl⟩
                  rw [hst] at HRT HPS HSZ
                  clear hst
                  have hb0 := (S[q]).toNat_lt
                  have HNL := hide (show (feedK st (S[q].toNat : Int)).2.length ≤ 1000 by have := feed_keys st (S[q].toNat : Int); omega)
                  have HFD := hide (fun W h => HFPS.out wb.heap.size (wb.heap.size + 1) st W h (S[q].toNat : Int) (by omega) (by omega) (by have := HSZ.out; omega))
                  have HRF := hide (fun W u (h : PM wb wb.heap.size (wb.heap.size + 1) st (feedK st (S[q].toNat : Int)).1 u (feedK st (S[q].toNat : Int)).2 W) => h.feed (S[q].toNat : Int) (by omega) (by omega) (by have := HSZ.out; omega))
                  have hq1 : (0 : Int) ≤ (q : Int) := by omega
                  have hq2 : (q : Int) < (S.size : Int) := by omega
                  clear hb0
                  go_wp2_with fail
                  go_region_held3 (fun W => W.cell? ⟨w.heap.size, 0, none⟩ = some (.string S))
                    (first | exact hc0 | exact hc2 | exact hc3 | exact hc4)
                    (first
                      | (go_at_call 15; refine (HFD.out _ (HPS.out.below (Below.refl _ _).drew)).mono ?_; rintro e w2 ⟨u, rfl, hpm⟩; have HPM := hide hpm; have hc2 := HBC.out _ hpm.low; clear hpm)
                      | (go_at_call 16; refine (HRF.out _ u HPM.out).mono ?_; rintro e w3 ⟨u', rfl, hpe⟩; have HPE := hide hpe; have hc3 := HBC.out _ hpe.ps.low; clear hpe)
                      | (go_at_call 14; refine (HPE.out.same HNL.out).mono ?_; rintro e w4 ⟨rfl, hps⟩; have HPS4 := hide hps; have hc4 := HBC.out _ hps.low; clear hps)
                      | fail)
                  all_goals go_wp2_with fail
                  all_goals go_roundw
                  all_goals first | exact ⟨q + 1, by go_num, by omega, hide (by rw [HRT.out]; exact HPS4.out)⟩ | (simp [intOf]; omega)
                · obtain rfl : q = S.size := by omega
                  rw [run_all] at HPS
                  obtain ⟨st, hst⟩ : ∃ st, (runK startK S.data.toList).1 = st := ⟨_, rfl⟩
                  rw [hst] at HPS
                  clear hst
                  have HNL := hide (show (tickK st).2.length ≤ 1000 by have := tick_keys st; omega)
                  have HBW := hide (fun W (hW : Below wb.heap.size wb W) => HB0.out.trans (hW.mono (Nat.le_of_lt HLT.out)))
                  go_wp2_with fail
                  refine HPS.out.tick.mono ?_
                  rintro e w2 ⟨u, rfl, hpm⟩
                  have HPM := hide hpm
                  clear hpm
                  go_wp2_with fail
                  refine HPM.out.tick.mono ?_
                  rintro e w3 ⟨u', rfl, hpe⟩
                  have HPE := hide hpe
                  clear hpe
                  go_wp2_with fail
                  refine (HPE.out.same HNL.out).mono ?_
                  rintro e w4 ⟨rfl, hps⟩
                  have HW4 := hide (HBW.out _ hps.low)
                  clear hps
                  go_wp2_with fail
                  refine (HP.out _ HW4.out).mono ?_
                  rintro e w5 ⟨rfl, hb5⟩
                  have HW5 := hide (HW4.out.trans (hb5.mono HW4.out.size))
                  clear hb5
                  go_wp2_with fail
                  go_ret
                  exact ⟨rfl, HW5.out⟩
end Go.Proofs.YtiilgeinkocanaaDoor
