/- The document's terminal: Write. limnerref08.New. -/
import Derived.Test.YtmemdhmjhckmaaaDoorZ43
import Derived.Test.YtmemdhmjhckmaaaDoorZ32
import Derived.Test.YtmemdhmjhckmaaaDoorZ33
import Derived.Test.YtmemdhmjhckmaaaDoorZ23
import Derived.Test.YtmemdhmjhckmaaaDoorZ13
import Derived.Test.YtmemdhmjhckmaaaDoorZ31
namespace Go.Proofs.YtmemdhmjhckmaaaDoor
open Go.RowKit
set_option maxRecDepth 100000

theorem rfeed_open {w : World} {T : ByteArray} {L : List Ac} {e : Ending} {w' : World} (h : FeedPost w (.string T) L e w') : ∃ (A : Option Addr) (c : Nat), e = .returned (.tuple #[.string T, .slice A L.length c]) ∧ ActsV w' (.slice A L.length c) L ∧ Below w.heap.size w w' := by
  obtain ⟨v, rfl, hv, hb⟩ := h
  obtain ⟨A, cap, M, rfl, r⟩ := hv
  exact ⟨A, cap, rfl, ⟨A, cap, M, rfl, r⟩, hb⟩
theorem FourA.neR {w0 W : World} {z g cap b : Nat} {t : Tm} (h : FourA W b) (hm : TrB w0 W z g cap t) : b ≠ z ∧ b ≠ g := by
  obtain ⟨E, ⟨cs, f, hb⟩, hE⟩ := h
  constructor
  · rintro rfl
    have := hm.b
    unfold Blk at this
    rw [hb] at this
    injection this with this
    injection this with _ e2 _
    rw [e2] at hE
    exact absurd hE (by decide +kernel)
  · rintro rfl
    rcases hm.own.2 with ⟨e, -⟩ | ⟨g', cap', cur, e, -, hh, -⟩
    · cases e
    · injection e with e1 e2 e3
      injection e1 with e1; injection e1 with e1 e1'; subst e1
      rw [hb] at hh
      injection hh with hh
      injection hh with _ e2 _
      rw [e2] at hE
      exact absurd hE (by decide +kernel)
/-- One action of a slice, at a later world. -/
theorem racts_late {w0 W V : World} {z g cap : Nat} {t : Tm} {A : Option Addr} {n c : Nat} {L : List Ac} (h : ActsV W (.slice A n c) L) (hm : TrB w0 W z g cap t) (hk : K2 z g W V) {j : Nat} {a : Ac} (hj : L[j]? = some a) :
    ∃ b o pv, A = some ⟨b, o, none⟩ ∧ NumsV V pv a.ps ∧ V.cell? ⟨b, o + j * 4, none⟩ = some (.int .i64 a.kind) ∧ V.cell? ⟨b, o + j * 4 + 1, none⟩ = some (.int .i32 a.r) ∧ V.cell? ⟨b, o + j * 4 + 2, none⟩ = some pv ∧ V.cell? ⟨b, o + j * 4 + 3, none⟩ = some (.int .u8 a.fin) := by
  obtain ⟨b, o, pv, rfl, hn, c0, c1, c2, c3⟩ := acts_at h hj
  have h4 : FourA W b := by
    obtain ⟨A', cap', M, e, -, -, -, -, -, ht⟩ := h
    injection e with e1 e2 e3
    exact ht b o e1.symm
  obtain ⟨n1, n2⟩ := h4.neR hm
  have hb := hk.block b (World.block_lt_of_cell? _ _ c0) n1 n2
  exact ⟨b, o, pv, rfl, hn.k2R hm hk, (World.cell?_of_block hb).trans c0, (World.cell?_of_block hb).trans c1, (World.cell?_of_block hb).trans c2, (World.cell?_of_block hb).trans c3⟩
theorem acts_far5 {w0 W : World} {z g cap : Nat} {t : Tm} {A : Option Addr} {n c : Nat} {L : List Ac} (h : ActsV W (.slice A n c) L) (hm : TrB w0 W z g cap t) (v : Value) : ActsV (W.setCell ⟨z, 5, none⟩ v) (.slice A n c) L := by
  obtain ⟨A', cap, M, e, em, h0, hcap, hn, hc, ht⟩ := h
  have hk := K2.set z g 5 W v
  refine ⟨A', cap, M, e, em, h0, hcap, fun x hx => ⟨(hn x hx).1.k2R hm hk, (hn x hx).2⟩, fun j u hu => ?_, fun b o e => ?_⟩
  · obtain ⟨b, o, ea, hx⟩ := hc j u hu
    obtain ⟨n1, n2⟩ := (ht b o ea).neR hm
    exact ⟨b, o, ea, (World.cell?_of_block (hk.block b (World.block_lt_of_cell? _ _ hx) n1 n2)).trans hx⟩
  · have h4 := ht b o e
    obtain ⟨n1, n2⟩ := h4.neR hm
    obtain ⟨E, ⟨cs, f, hb⟩, hE⟩ := h4
    exact ⟨E, ⟨cs, f, (hk.block b (Array.getElem?_eq_some_iff.1 hb).1 n1 n2).trans hb⟩, hE⟩
theorem g_next {a b c n m : Nat} (h1 : b = a ∨ n ≤ b) (h2 : c = b ∨ m ≤ c) (hnm : n ≤ m) : c = a ∨ n ≤ c := by omega
set_option maxHeartbeats 8000000 in
theorem rtwrite_any {w0 W : World} {z g cap : Nat} (t : Tm) (h : TrB w0 W z g cap t) (hI : Inv t) (s : ByteArray) (hs : s.size ≤ 10000) (K : Nat) (hK : K ≤ 50000) (hp : StOk K t.p) (hb : t.bells ≤ 500000) :
    Calls Tryd.prog 12 #[.pointer (some ⟨z, 0, none⟩), .string s] W (Mr w0 W z g (writeM t s)) := by
  have HF := hide (fun k => write_facts hI s hp k)
  have H0 := hide h
  clear h
  go_enter Tryd.func12, Tryd.ntmps12
  go_wp2_with fail
  go_loopw [4] (fun jv wr => ∃ (k g' cap' : Nat), jv = .int .i64 (k : Int) ∧ k ≤ s.size ∧ Hid (TrB w0 wr z g' cap' (writeTo t s k)) ∧ Hid (K2 z g W wr) ∧ Hid (g' = g ∨ W.heap.size ≤ g')) (fun jv _ => s.size - (intOf jv).toNat)
  case atStart => exact ⟨0, g, cap, rfl, by omega, H0, hide (K2.refl _ _ _), hide (.inl rfl)⟩
  case round =>
    clear H0
    obtain ⟨k, g5, cap5, rfl, hk, HW, HK, HG⟩ := hrel
    by_cases hlt : k < s.size
    · have hks : (k : Int) < (s.size : Int) := by omega
      obtain ⟨f1, f2, f3⟩ := HF.out k
      have HST := hide (show writeTo t s (k + 1) = stepM (writeTo t s k) (s[k].toNat : Int) by rw [writeTo, get_at s k hlt])
      obtain ⟨u, hu⟩ : ∃ u, writeTo t s k = u := ⟨_, rfl⟩
      rw [hu] at HW HST f1 f2 f3
      clear hu
      obtain ⟨x, hx⟩ : ∃ x, ((s[k].toNat : Int)) = x := ⟨_, rfl⟩
      have hx0 : 0 ≤ x ∧ x ≤ 255 := by have := s[k].toNat_lt; omega
      have HFE := hide (fun (V : World) => rfeed_any (K + k) u.p x V (by omega) f2 hx0.1 hx0.2)
      have HAC := hide (feed_acs u.p x)
      have HTWO := hide (feed_two u.p x)
      have HI2 := hide f1
      have hbu : u.bells ≤ 600000 := by omega
      rw [hx] at HST
      have HST2 := hide (show stepM u x = (feed u.p x).2.foldl actM { u with p := (feed u.p x).1 } from rfl)
      rw [← HST.out] at HST2
      clear f1 f2 f3 hx0 HST
      obtain ⟨q, hq⟩ : ∃ q, (feed u.p x).1 = q := ⟨_, rfl⟩
      obtain ⟨L, hL⟩ : ∃ L, (feed u.p x).2 = L := ⟨_, rfl⟩
      rw [hq, hL] at HFE HST2
      rw [hL] at HAC HTWO
      clear hq hL
      obtain ⟨R, C, cs, row, col, p, sy, wt, bl⟩ := u
      dsimp only at hbu HFE HST2
      have HFE2 := hide (show ∀ V, Calls Tryd.prog 31 #[.string (tOf p), .int .u8 (s[k].toNat : Int)] V (FeedPost V (.string (tOf q)) L) from fun V => by rw [hx]; exact HFE.out V)
      clear HFE hx x
      obtain ⟨T, hT⟩ : ∃ T, tOf p = T := ⟨_, rfl⟩
      have c5 := HW.out.reads.2.2.2.2.2.1
      have bf := fun i => HW.out.b.frozen i
      rw [hT] at c5 HFE2
      clear hT
      have HWd := hide (HW.out.low (Below.refl _ _).drew)
      have c5' : wr.drew.cell? ⟨z, 5, none⟩ = some (.string T) := c5
      have HKd := hide (K2.drew (z := z) (g := g5) (W := wr))
      go_wp2_with fail
      refine wp_region_held_drew (S := (fun V => V.cell? ⟨z, 5, none⟩ = some (.string T))) (by kernel_rfl) ?_ (fun hHeld => ?_)
      · exact c5
      refine wpAnyH_at (i := 0) (v := ?vrw0) (d := 16) rfl rfl (by kernel_rfl) (by kernel_rfl) (by kernel_rfl) (fun _ _ _ h => h) (Or.inl ⟨by rfl, fun w' hSw => ?hyrw0⟩) (by assumption) ?restrw0
      case hyrw0 =>
        (try dsimp only at hSw)
        go_simp
        (try with_reducible rfl)
      (try simp only [Act.put, List.setIfInBounds_toArray, List.set_cons_zero, List.set_cons_succ])
      refine wpAnyH_at (i := 1) (v := ?vrw1) (d := 17) rfl rfl (by kernel_rfl) (by kernel_rfl) (by kernel_rfl) (fun _ _ _ h => h) (Or.inl ⟨by rfl, fun w' hSw => ?hyrw1⟩) (by assumption) ?restrw1
      case hyrw1 =>
        (try dsimp only at hSw)
        go_simp
        (try with_reducible rfl)
      (try simp only [Act.put, List.setIfInBounds_toArray, List.set_cons_zero, List.set_cons_succ])
      refine wpAnyH_at (i := 2) (v := ?vrw2) (d := 18) rfl rfl (by kernel_rfl) (by kernel_rfl) (by kernel_rfl) (fun _ _ _ h => h) (Or.inl ⟨by rfl, fun w' hSw => ?hyrw2⟩) (by assumption) ?restrw2
      case hyrw2 =>
        (try dsimp only at hSw)
        go_simp
        (try with_reducible rfl)
      (try simp only [Act.put, List.setIfInBounds_toArray, List.set_cons_zero, List.set_cons_succ])
      refine wpAnyH_at (i := 3) (v := ?vrw3) (d := 19) rfl rfl (by kernel_rfl) (by kernel_rfl) (by kernel_rfl) (fun _ _ _ h => h) (Or.inl ⟨by rfl, fun w' hSw => ?hyrw3⟩) (by assumption) ?restrw3
      case hyrw3 =>
        (try dsimp only at hSw)
        go_simp
        (try with_reducible rfl)
      (try simp only [Act.put, List.setIfInBounds_toArray, List.set_cons_zero, List.set_cons_succ])
      refine wpAnyH_at (i := 4) (v := ?vrw4) (d := 20) rfl rfl (by kernel_rfl) (by kernel_rfl) (by kernel_rfl) (fun _ _ _ h => h) (Or.inl ⟨by rfl, fun w' hSw => ?hyrw4⟩) (by assumption) ?restrw4
      case hyrw4 =>
        (try dsimp only at hSw)
        go_simp
        (try with_reducible rfl)
      (try simp only [Act.put, List.setIfInBounds_toArray, List.set_cons_zero, List.set_cons_succ])
      refine wpAnyH_at (i := 5) (v := ?vrw5) (d := 21) rfl rfl (by kernel_rfl) (by kernel_rfl) (by kernel_rfl) (fun _ _ _ h => h) (Or.inl ⟨by rfl, fun w' hSw => ?hyrw5⟩) (by assumption) ?restrw5
      case hyrw5 =>
        (try dsimp only at hSw)
        go_simp
        (try with_reducible rfl)
      (try simp only [Act.put, List.setIfInBounds_toArray, List.set_cons_zero, List.set_cons_succ])
      refine wpAnyH_at (i := 6) (v := ?vrw6) (d := 22) rfl rfl (by kernel_rfl) (by kernel_rfl) (by kernel_rfl) (fun _ _ _ h => h) (Or.inl ⟨by rfl, fun w' hSw => ?hyrw6⟩) (by assumption) ?restrw6
      case hyrw6 =>
        (try dsimp only at hSw)
        go_simp
        (try with_reducible rfl)
      (try simp only [Act.put, List.setIfInBounds_toArray, List.set_cons_zero, List.set_cons_succ])
      refine wpAnyH_ready (rs := [7]) (by kernel_rfl) (by simp) ?_
      refine AllReadyH.cons rfl (fun K' hK' => ?_) AllReadyH.nil
      go_simp
      refine (HFE2.out _).mono ?_; rintro e w2 hfp
      obtain ⟨A, c, rfl, hacts, hb2⟩ := rfeed_open hfp
      have HA2 := hide hacts
      have HW2 := hide (HWd.out.low hb2)
      have K2_ := hide (HKd.out.trans (K2.of hb2))
      have d5 : w2.cell? ⟨z, 5, none⟩ = some (.string T) := (hb2.cell (p := ⟨z, 5, none⟩) (World.block_lt_of_cell? _ _ c5')).trans c5'
      clear hfp hacts hb2
      go_wp2_with fail
      refine hK'.out _ _ ?_ (fun hHeld => ?_)
      · exact d5
      clear hK' K'
      (try simp only [Act.put, List.getElem_toArray, List.getElem_cons_succ, List.getElem_cons_zero, List.setIfInBounds_toArray, List.set_cons_zero, List.set_cons_succ])
      refine wpAnyH_at (i := 8) (v := ?vrw8) (d := 15) rfl rfl (by kernel_rfl) (by kernel_rfl) (by kernel_rfl) (fun _ _ _ h => h) (Or.inl ⟨by rfl, fun w' hSw => ?hyrw8⟩) (by assumption) ?restrw8
      case hyrw8 =>
        (try dsimp only at hSw)
        go_simp
        (try with_reducible rfl)
      (try simp only [Act.put, List.setIfInBounds_toArray, List.set_cons_zero, List.set_cons_succ])
      refine wpAnyH_at (i := 9) (v := ?vrw9) (d := 24) rfl rfl (by kernel_rfl) (by kernel_rfl) (by kernel_rfl) (fun _ _ _ h => h) (Or.inl ⟨by rfl, fun w' hSw => ?hyrw9⟩) (by assumption) ?restrw9
      case hyrw9 =>
        (try dsimp only at hSw)
        go_simp
        (try with_reducible rfl)
      (try simp only [Act.put, List.setIfInBounds_toArray, List.set_cons_zero, List.set_cons_succ])
      refine wpAnyH_at (i := 10) (v := ?vrw10) (d := 25) rfl rfl (by kernel_rfl) (by kernel_rfl) (by kernel_rfl) (fun _ _ _ h => h) (Or.inl ⟨by rfl, fun w' hSw => ?hyrw10⟩) (by assumption) ?restrw10
      case hyrw10 =>
        (try dsimp only at hSw)
        go_simp
        (try with_reducible rfl)
      (try simp only [Act.put, List.setIfInBounds_toArray, List.set_cons_zero, List.set_cons_succ])
      refine wpAnyH_at (i := 11) (v := ?vrw11) (d := 5) rfl rfl (by kernel_rfl) (by kernel_rfl) (by kernel_rfl) (fun _ _ _ h => h) (Or.inl ⟨by rfl, fun w' hSw => ?hyrw11⟩) (by assumption) ?restrw11
      case hyrw11 =>
        (try dsimp only at hSw)
        go_simp
        (try with_reducible rfl)
      (try simp only [Act.put, List.setIfInBounds_toArray, List.set_cons_zero, List.set_cons_succ])
      refine wpAnyH_at (i := 12) (v := ?vrw12) (d := 6) rfl rfl (by kernel_rfl) (by kernel_rfl) (by kernel_rfl) (fun _ _ _ h => h) (Or.inl ⟨by rfl, fun w' hSw => ?hyrw12⟩) (by assumption) ?restrw12
      case hyrw12 =>
        (try dsimp only at hSw)
        go_simp
        (try with_reducible rfl)
      (try simp only [Act.put, List.setIfInBounds_toArray, List.set_cons_zero, List.set_cons_succ])
      refine wpAnyH_done (by kernel_rfl) ?_ _
      clear c5 c5' bf
      have bf := fun i => HW2.out.b.frozen i
      have HW5 := hide (HW2.out.setZ ⟨R, C, cs, row, col, q, sy, wt, bl⟩ 5 (.string (tOf q)) rfl rfl)
      have K5 := hide (K2_.out.trans (K2.set z g5 5 w2 (.string (tOf q))))
      have HA5 := hide (acts_far5 HA2.out HW2.out (.string (tOf q)))
      obtain ⟨T2, hT2⟩ : ∃ T, tOf q = T := ⟨_, rfl⟩
      rw [hT2] at HW5 K5 HA5 ⊢
      clear hT2
      obtain ⟨lq, hlq⟩ : ∃ n, L.length = n := ⟨_, rfl⟩
      have HLQ := hide hlq
      have hl2 : lq ≤ 2 := by rw [← hlq]; exact HTWO.out
      rw [hlq] at HA5 ⊢
      clear hlq HA2
      go_wp2_with fail
      obtain ⟨w5, hw5⟩ : ∃ V, w2.setCell ⟨z, 5, none⟩ (.string T2) = V := ⟨_, rfl⟩
      rw [hw5] at HW5 K5 HA5
      rw [hw5]
      clear hw5 d5 bf
      go_loopw [7] (fun jv wr => ∃ (j g' cap' : Nat), jv = .int .i64 (j : Int) ∧ j ≤ lq ∧ Hid (TrB w0 wr z g' cap' ((L.take j).foldl actM ⟨R, C, cs, row, col, q, sy, wt, bl⟩)) ∧ Hid (K2 z g5 w5 wr) ∧ Hid (g' = g5 ∨ w5.heap.size ≤ g')) (fun jv _ => lq - (intOf jv).toNat)
      case atStart => exact ⟨0, g5, cap5, rfl, by omega, HW5, hide (K2.refl _ _ _), hide (.inl rfl)⟩
      case round =>
        obtain ⟨j, gj, capj, rfl, hj, HV, HKV, HGJ⟩ := hrel
        by_cases hjl : j < lq
        · have hjj : (j : Int) < (lq : Int) := by omega
          obtain ⟨ac, hac⟩ : ∃ x, L[j]? = some x := ⟨_, List.getElem?_eq_getElem (by rw [HLQ.out]; exact hjl)⟩
          obtain ⟨b, o, pv, rfl, hnv, a0, a1, a2, a3⟩ := racts_late HA5.out HW5.out HKV.out hac
          have hok := HAC.out ac (List.mem_of_getElem? hac)
          obtain ⟨hi6, -, hb6⟩ := acts_facts ⟨R, C, cs, row, col, q, sy, wt, bl⟩ (L.take j) (HI2.out.setP q)
          have HSTJ := hide (show (L.take (j + 1)).foldl actM ⟨R, C, cs, row, col, q, sy, wt, bl⟩ = actM ((L.take j).foldl actM ⟨R, C, cs, row, col, q, sy, wt, bl⟩) ac by rw [List.take_add_one, hac]; simp)
          obtain ⟨ak, ar, aps, af⟩ := ac
          dsimp only at a0 a1 a2 a3 hnv
          obtain ⟨tj, htj⟩ : ∃ x, (L.take j).foldl actM ⟨R, C, cs, row, col, q, sy, wt, bl⟩ = x := ⟨_, rfl⟩
          rw [htj] at HV HSTJ hi6 hb6
          have htl : (L.take j).length ≤ 2 := by rw [List.length_take]; omega
          dsimp only at hb6
          have hbj : tj.bells ≤ 700000 := by omega
          obtain ⟨pA, pc, rfl⟩ := hnv.form
          obtain ⟨pl, hpl⟩ : ∃ n, aps.length = n := ⟨_, rfl⟩
          have HPL := hide hpl
          rw [hpl] at a2 hnv
          clear hac hb6 htl hpl htj
          by_cases k1 : ak = 1
          · subst k1
            have HE := hide (show actM tj ⟨1, ar, aps, af⟩ = showM tj (shown ar) (widN (shown ar)) from rfl)
            have hbl : Below wr.heap.size wr (wr.alloc (.cells #[.int .i64 1, .int .i32 ar, .slice pA pl pc, .int .u8 af] 77)) := (Below.refl _ _).alloc (Nat.le_refl _) _
            have HVA := hide (HV.out.low hbl)
            have KVA := hide (HKV.out.trans (K2.of hbl))
            have HSZ := hide (show w5.heap.size ≤ (wr.alloc (.cells #[.int .i64 1, .int .i32 ar, .slice pA pl pc, .int .u8 af] 77)).heap.size from Nat.le_trans HKV.out.size hbl.size)
            have HSH := hide (fun V (H : TrB w0 V z gj capj tj) => rtshow_any tj H hi6 (shown ar) (widN (shown ar)) (wid_shown ar).1 (wid_shown ar).2)
            clear hbl hnv
            go_wp2_with (first | (go_at_call 33; refine (rshown_any _ _).mono ?_; rintro e w6 ⟨rfl, hb6⟩) | fail)
            refine (HSH.out _ (HVA.out.low hb6)).mono ?_; rintro e w7 ⟨rfl, g7, cap7, H7, K7, hg7⟩
            have H7 := hide H7
            have K7' := hide ((KVA.out.trans (K2.of hb6)).thenG K7 HGJ.out)
            have G7 := hide (g_next HGJ.out hg7 (Nat.le_trans HSZ.out hb6.size))
            clear K7 hg7 hb6
            go_wp2
            exact ⟨⟨j + 1, _, _, by go_num, by omega, hide (by rw [HSTJ.out, HE.out]; exact H7.out), K7', G7⟩, by simp [intOf]; omega⟩
          have n1 : (ak == 1) = false := beq_eq_false_iff_ne.2 k1
          by_cases k3 : ak = 3
          · subst k3
            have HE := hide (show actM tj ⟨3, ar, aps, af⟩ = seqM tj aps af from rfl)
            have hbl : Below wr.heap.size wr (wr.alloc (.cells #[.int .i64 3, .int .i32 ar, .slice pA pl pc, .int .u8 af] 77)) := (Below.refl _ _).alloc (Nat.le_refl _) _
            have HVA := hide (HV.out.low hbl)
            have KVA := hide (HKV.out.trans (K2.of hbl))
            have HSZ := hide (show w5.heap.size ≤ (wr.alloc (.cells #[.int .i64 3, .int .i32 ar, .slice pA pl pc, .int .u8 af] 77)).heap.size from Nat.le_trans HKV.out.size hbl.size)
            have HSH := hide (rtseq_any tj HVA.out hi6 af (.slice pA aps.length pc) aps (by rw [HPL.out]; exact hnv.below hbl) hok.1 hok.2)
            rw [HPL.out] at HSH
            clear hbl hnv
            go_wp2_with fail
            refine HSH.out.mono ?_; rintro e w7 ⟨rfl, g7, cap7, H7, K7, hg7⟩
            have H7 := hide H7
            have K7' := hide (KVA.out.thenG K7 HGJ.out)
            have G7 := hide (g_next HGJ.out hg7 HSZ.out)
            clear K7 hg7
            go_wp2
            exact ⟨⟨j + 1, _, _, by go_num, by omega, hide (by rw [HSTJ.out, HE.out]; exact H7.out), K7', G7⟩, by simp [intOf]; omega⟩
          have n3 : (ak == 3) = false := beq_eq_false_iff_ne.2 k3
          by_cases k2 : ak = 2
          · subst k2
            by_cases r7 : ar = 7
            · subst r7
              obtain ⟨Rj, Cj, cj, rj, lj, pj, sj, wj, bj⟩ := tj
              dsimp only at hbj
              have hw : IntKind.i64.wrap ((bj : Int) + 1) = ((bj + 1 : Nat) : Int) := (Go.wrap_small _ (by omega) (by omega)).trans (by omega)
              have HE := hide (show actM ⟨Rj, Cj, cj, rj, lj, pj, sj, wj, bj⟩ ⟨2, 7, aps, af⟩ = ⟨Rj, Cj, cj, rj, lj, pj, sj, wj, (bj + 1)⟩ from rfl)
              have hbl : Below wr.heap.size wr (wr.alloc (.cells #[.int .i64 2, .int .i32 7, .slice pA pl pc, .int .u8 af] 77)) := (Below.refl _ _).alloc (Nat.le_refl _) _
              have HVA := hide (HV.out.low hbl)
              have KVA := hide (HKV.out.trans (K2.of hbl))
              have HSZ := hide (show w5.heap.size ≤ (wr.alloc (.cells #[.int .i64 2, .int .i32 7, .slice pA pl pc, .int .u8 af] 77)).heap.size from Nat.le_trans HKV.out.size hbl.size)
              have bf := fun i => HVA.out.b.frozen i
              obtain ⟨-, -, -, -, c4, -, -, -, -, -, c10, c11⟩ := HVA.out.reads
              obtain ⟨-, -, -, -, d4, -, -, -, -, -, d10, d11⟩ := HV.out.reads
              have bg := fun i => HV.out.b.frozen i
              clear hbl hnv
              go_wp2
              exact ⟨⟨j + 1, _, _, by go_num, by omega, hide (by rw [HSTJ.out, HE.out]; exact (HVA.out.setZ ⟨Rj, Cj, cj, rj, lj, pj, sj, wj, (bj + 1)⟩ 11 (.int .i64 ((bj + 1 : Nat) : Int)) rfl rfl)), hide (KVA.out.trans (K2.set _ _ _ _ _)), HGJ⟩, by simp [intOf]; omega⟩
            have e7 : (ar == 7) = false := beq_eq_false_iff_ne.2 r7
            by_cases r13 : ar = 13
            · subst r13
              obtain ⟨Rj, Cj, cj, rj, lj, pj, sj, wj, bj⟩ := tj
              have HE := hide (show actM ⟨Rj, Cj, cj, rj, lj, pj, sj, wj, bj⟩ ⟨2, 13, aps, af⟩ = ⟨Rj, Cj, cj, rj, 0, pj, sj, false, bj⟩ from rfl)
              have hbl : Below wr.heap.size wr (wr.alloc (.cells #[.int .i64 2, .int .i32 13, .slice pA pl pc, .int .u8 af] 77)) := (Below.refl _ _).alloc (Nat.le_refl _) _
              have HVA := hide (HV.out.low hbl)
              have KVA := hide (HKV.out.trans (K2.of hbl))
              have HSZ := hide (show w5.heap.size ≤ (wr.alloc (.cells #[.int .i64 2, .int .i32 13, .slice pA pl pc, .int .u8 af] 77)).heap.size from Nat.le_trans HKV.out.size hbl.size)
              have bf := fun i => HVA.out.b.frozen i
              obtain ⟨-, -, -, -, c4, -, -, -, -, -, c10, c11⟩ := HVA.out.reads
              obtain ⟨-, -, -, -, d4, -, -, -, -, -, d10, d11⟩ := HV.out.reads
              have bg := fun i => HV.out.b.frozen i
              clear hbl hnv
              go_wp2
              exact ⟨⟨j + 1, _, _, by go_num, by omega, hide (by rw [HSTJ.out, HE.out]; exact ((HVA.out.setZ ⟨Rj, Cj, cj, rj, 0, pj, sj, wj, bj⟩ 4 (.int .i64 ((0 : Nat) : Int)) rfl rfl).setZ ⟨Rj, Cj, cj, rj, 0, pj, sj, false, bj⟩ 10 (.bool false) rfl rfl)), hide ((KVA.out.trans (K2.set _ _ _ _ _)).trans (K2.set _ _ _ _ _)), HGJ⟩, by simp [intOf]; omega⟩
            have e13 : (ar == 13) = false := beq_eq_false_iff_ne.2 r13
            by_cases r8 : ar = 8
            · subst r8
              obtain ⟨Rj, Cj, cj, rj, lj, pj, sj, wj, bj⟩ := tj
              have hlj := hi6.hcol
              have hCj := hi6.hC
              dsimp only at hlj hCj
              have hw : IntKind.i64.wrap ((lj : Int) - 1) = (lj : Int) - 1 := by simp only [IntKind.wrap_i64]; omega
              have hm : max 0 ((lj : Int) - 1) = ((lj - 1 : Nat) : Int) := by omega
              have hm2 : max ((lj : Int) - 1) 0 = ((lj - 1 : Nat) : Int) := by omega
              have HE := hide (show actM ⟨Rj, Cj, cj, rj, lj, pj, sj, wj, bj⟩ ⟨2, 8, aps, af⟩ = ⟨Rj, Cj, cj, rj, (lj - 1), pj, sj, false, bj⟩ from rfl)
              have hbl : Below wr.heap.size wr (wr.alloc (.cells #[.int .i64 2, .int .i32 8, .slice pA pl pc, .int .u8 af] 77)) := (Below.refl _ _).alloc (Nat.le_refl _) _
              have HVA := hide (HV.out.low hbl)
              have KVA := hide (HKV.out.trans (K2.of hbl))
              have HSZ := hide (show w5.heap.size ≤ (wr.alloc (.cells #[.int .i64 2, .int .i32 8, .slice pA pl pc, .int .u8 af] 77)).heap.size from Nat.le_trans HKV.out.size hbl.size)
              have bf := fun i => HVA.out.b.frozen i
              obtain ⟨-, -, -, -, c4, -, -, -, -, -, c10, c11⟩ := HVA.out.reads
              obtain ⟨-, -, -, -, d4, -, -, -, -, -, d10, d11⟩ := HV.out.reads
              have bg := fun i => HV.out.b.frozen i
              clear hbl hnv
              go_wp2
              exact ⟨⟨j + 1, _, _, by go_num, by omega, hide (by rw [HSTJ.out, HE.out]; exact ((HVA.out.setZ ⟨Rj, Cj, cj, rj, (lj - 1), pj, sj, wj, bj⟩ 4 (.int .i64 ((lj - 1 : Nat) : Int)) rfl rfl).setZ ⟨Rj, Cj, cj, rj, (lj - 1), pj, sj, false, bj⟩ 10 (.bool false) rfl rfl)), hide ((KVA.out.trans (K2.set _ _ _ _ _)).trans (K2.set _ _ _ _ _)), HGJ⟩, by simp [intOf]; omega⟩
            have e8 : (ar == 8) = false := beq_eq_false_iff_ne.2 r8
            by_cases r10 : ar = 10
            · subst r10
              obtain ⟨Rj, Cj, cj, rj, lj, pj, sj, wj, bj⟩ := tj
              have hbl : Below wr.heap.size wr (wr.alloc (.cells #[.int .i64 2, .int .i32 10, .slice pA pl pc, .int .u8 af] 77)) := (Below.refl _ _).alloc (Nat.le_refl _) _
              have HVA := hide (HV.out.low hbl)
              have KVA := hide (HKV.out.trans (K2.of hbl))
              have HSZ := hide (show w5.heap.size ≤ (wr.alloc (.cells #[.int .i64 2, .int .i32 10, .slice pA pl pc, .int .u8 af] 77)).heap.size from Nat.le_trans HKV.out.size hbl.size)
              have HSH := hide (fun V (H : TrB w0 V z gj capj ⟨Rj, Cj, cj, rj, lj, pj, sj, wj, bj⟩) => rtfeed_any ⟨Rj, Cj, cj, rj, lj, pj, sj, wj, bj⟩ H hi6)
              obtain ⟨cs1, row1, hf⟩ := wrap_form Rj Cj cj rj lj pj sj wj bj
              have HE := hide (show actM ⟨Rj, Cj, cj, rj, lj, pj, sj, wj, bj⟩ ⟨2, 10, aps, af⟩ = ⟨Rj, Cj, cs1, row1, lj, pj, sj, false, bj⟩ by show ({ feedM ⟨Rj, Cj, cj, rj, lj, pj, sj, wj, bj⟩ with waits := false } : Tm) = _; rw [hf])
              rw [hf] at HSH
              clear hbl hnv hf
              go_wp2_with fail
              refine (HSH.out _ HVA.out).mono ?_; rintro e w7 ⟨rfl, g7, cap7, H7, K7, hg7⟩
              obtain ⟨-, -, -, -, -, -, -, -, -, -, c10, -⟩ := H7.reads
              have bf := fun i => H7.b.frozen i
              have H7 := hide H7
              have K7' := hide ((KVA.out.thenG K7 HGJ.out).trans (K2.set z g5 10 _ (.bool false)))
              have G7 := hide (g_next HGJ.out hg7 HSZ.out)
              clear K7 hg7
              go_wp2
              exact ⟨⟨j + 1, _, _, by go_num, by omega, hide (by rw [HSTJ.out, HE.out]; exact (H7.out.setZ ⟨Rj, Cj, cs1, row1, lj, pj, sj, false, bj⟩ 10 (.bool false) rfl rfl)), K7', G7⟩, by simp [intOf]; omega⟩
            have e10 : (ar == 10) = false := beq_eq_false_iff_ne.2 r10
            have HE := hide (show actM tj ⟨2, ar, aps, af⟩ = tj by show ctlM tj ar = tj; unfold ctlM; rw [if_neg r7, if_neg r13, if_neg r8, if_neg r10])
            have hbl : Below wr.heap.size wr (wr.alloc (.cells #[.int .i64 2, .int .i32 ar, .slice pA pl pc, .int .u8 af] 77)) := (Below.refl _ _).alloc (Nat.le_refl _) _
            have HVA := hide (HV.out.low hbl)
            have KVA := hide (HKV.out.trans (K2.of hbl))
            have HSZ := hide (show w5.heap.size ≤ (wr.alloc (.cells #[.int .i64 2, .int .i32 ar, .slice pA pl pc, .int .u8 af] 77)).heap.size from Nat.le_trans HKV.out.size hbl.size)
            clear hbl hnv
            go_wp2
            exact ⟨⟨j + 1, _, _, by go_num, by omega, hide (by rw [HSTJ.out, HE.out]; exact HVA.out), KVA, HGJ⟩, by simp [intOf]; omega⟩
          have n2 : (ak == 2) = false := beq_eq_false_iff_ne.2 k2
          have HE := hide (show actM tj ⟨ak, ar, aps, af⟩ = tj by unfold actM; dsimp only; rw [if_neg k1, if_neg k2, if_neg k3])
          have hbl : Below wr.heap.size wr (wr.alloc (.cells #[.int .i64 ak, .int .i32 ar, .slice pA pl pc, .int .u8 af] 77)) := (Below.refl _ _).alloc (Nat.le_refl _) _
          have HVA := hide (HV.out.low hbl)
          have KVA := hide (HKV.out.trans (K2.of hbl))
          have HSZ := hide (show w5.heap.size ≤ (wr.alloc (.cells #[.int .i64 ak, .int .i32 ar, .slice pA pl pc, .int .u8 af] 77)).heap.size from Nat.le_trans HKV.out.size hbl.size)
          clear hbl hnv
          go_wp2
          exact ⟨⟨j + 1, _, _, by go_num, by omega, hide (by rw [HSTJ.out, HE.out]; exact HVA.out), KVA, HGJ⟩, by simp [intOf]; omega⟩
        · obtain rfl : j = lq := by omega
          have hjj : ¬ (j : Int) < (j : Int) := by omega
          have ht : L.take j = L := List.take_of_length_le (by rw [HLQ.out]; exact Nat.le_refl _)
          rw [ht, ← HST2.out] at HV
          have HKE := hide ((HK.out.thenG K5.out HG.out).thenG HKV.out (g_next HG.out (.inl rfl) (Nat.le_refl _)))
          have HGE := hide (g_next HG.out HGJ.out (Nat.le_trans HK.out.size K5.out.size))
          clear ht
          go_wp2
          exact ⟨⟨k + 1, gj, capj, by go_num, by omega, HV, HKE, HGE⟩, by simp [intOf]; omega⟩
    · obtain rfl : k = s.size := by omega
      have hks : ¬ (s.size : Int) < (s.size : Int) := by omega
      go_wp2
      go_end0
      exact Mr.mk HW.out HK.out HG.out
end Go.Proofs.YtmemdhmjhckmaaaDoor
namespace Go.Proofs.YtmemdhmjhckmaaaDoor
open Go.RowKit
set_option maxRecDepth 100000

set_option maxHeartbeats 4000000 in
theorem rtnew_any (R C : Nat) (hm : mayB R C = true) (w0 W : World) (hb : Below w0.heap.size w0 W) :
    Calls Tryd.prog 10 #[.int .i64 (R : Int), .int .i64 (C : Int)] W fun e W' => ∃ z g cap, e = .returned (.tuple #[.pointer (some ⟨z, 0, none⟩), .int .i64 0]) ∧ TrB w0 W' z g cap (newM R C) ∧ Below W.heap.size W W' ∧ W.heap.size ≤ z ∧ W.heap.size ≤ g := by
  have hbd := may_bd hm
  have hsz := hb.size
  have HNF := hide (rnew_frame R C W)
  obtain ⟨hnf, hne⟩ := newF_ok hm
  rw [hnf, hne] at HNF
  have HB := hide hb
  obtain ⟨n, hn⟩ : ∃ n, R * C = n := ⟨_, rfl⟩
  have hn0 : 0 < n := by rw [← hn]; exact Nat.mul_pos (by omega) (by omega)
  rw [hn] at HNF
  have HNN := hide hn
  clear hb hnf hne hn
  go_enter Tryd.func10, Tryd.ntmps10
  go_wp2_with fail
  refine HNF.out.mono ?_; rintro e w1 ⟨v', rfl, hf, hb1⟩
  obtain ⟨g, cap, rfl, hcap, hown, hg⟩ := (hf.mono hsz).open (by simp) hn0
  have hgW : W.heap.size ≤ g := by
    obtain ⟨g', cap', e, -, -, hg'⟩ := hf.open (by simp) hn0
    injection e with e
    simp only [Array.mk.injEq, List.cons.injEq, Value.slice.injEq, Option.some.injEq, Addr.mk.injEq] at e
    have := e.2.2.1.1.1
    omega
  have HOW := hide hown
  have HB1 := hide hb1
  have hl1 := hb1.size
  have hgl := hown.ltG
  have hbl1 : Below w1.heap.size w1 (w1.alloc (.cells #[.int .i64 (R : Int), .int .i64 (C : Int), .slice (some ⟨g, 0, none⟩) n cap, .int .i64 0, .int .i64 0] 35)) := (Below.refl _ _).alloc (Nat.le_refl _) _
  have HBL := hide hbl1
  clear hf hown hb1 HNF hbl1
  go_wp2_with fail
  go_ret2
  obtain ⟨w2, hw2⟩ : ∃ V, w1.alloc (.cells #[.int .i64 (R : Int), .int .i64 (C : Int), .slice (some ⟨g, 0, none⟩) n cap, .int .i64 0, .int .i64 0] 35) = V := ⟨_, rfl⟩
  have hz2 : w2.heap.size = w1.heap.size + 1 := by rw [← hw2]; simp
  rw [hw2] at HBL
  (try rw [hw2])
  have hbl3 : Below w2.heap.size w2 (w2.alloc (.cells (trCs (newM R C) g cap).toArray 40)) := (Below.refl _ _).alloc (Nat.le_refl _) _
  have hl2 := HBL.out.size
  have hcs : trCs (newM R C) g cap = [.int .i64 (R : Int), .int .i64 (C : Int), .slice (some ⟨g, 0, none⟩) n cap, .int .i64 0, .int .i64 0, .string ⟨#[]⟩, .int .i64 0, .bool false, .bool false, .bool false, .bool false, .int .i64 0] := by
    unfold trCs trC newM
    dsimp only
    rw [List.length_replicate, HNN.out]
    rfl
  have hbk : Blk (w2.alloc (.cells (trCs (newM R C) g cap).toArray 40)) (w1.heap.size + 1) 40 (trCs (newM R C) g cap) := by rw [← hz2]; exact Blk.new _ _ _
  have how := (HOW.out.below HBL.out).below hbl3
  have hbe := HB.out.trans ((HB1.out.trans ((HBL.out.trans (hbl3.mono hl2)).mono hl1)).mono hsz)
  have hbw := HB1.out.trans ((HBL.out.trans (hbl3.mono hl2)).mono hl1)
  rw [← HNN.out] at how
  have hfin : TrB w0 (w2.alloc (.cells (trCs (newM R C) g cap).toArray 40)) (w1.heap.size + 1) g cap (newM R C) :=
    ⟨hbk, by show OwnC _ _ (.slice _ (List.replicate (R * C) blankC).length cap) _; rw [List.length_replicate]; exact how, by omega, by omega, hbe, hcap⟩
  rw [hcs] at hfin hbw
  exact ⟨w1.heap.size + 1, g, cap, rfl, hfin, hbw, by omega, hgW⟩
end Go.Proofs.YtmemdhmjhckmaaaDoor
