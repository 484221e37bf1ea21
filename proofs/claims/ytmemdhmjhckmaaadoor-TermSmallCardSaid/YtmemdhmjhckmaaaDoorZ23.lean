/- Terminal: Write. Terminal: New, Frame, Bells. Terminal: Frame. Contracts of grids.Diff and limnerref06.Diff. -/
import Derived.Test.YtmemdhmjhckmaaaDoorZ22
import Derived.Test.YtmemdhmjhckmaaaDoorZ16
import Derived.Test.YtmemdhmjhckmaaaDoorZ6
import Derived.Test.YtmemdhmjhckmaaaDoorZ7
import Derived.Test.YtmemdhmjhckmaaaDoorZ8
namespace Go.Proofs.YtmemdhmjhckmaaaDoor
open Go.RowKit
set_option maxRecDepth 100000

theorem FourA.ne {w0 W : World} {z g cap b : Nat} {t : Tm} (h : FourA W b) (hm : TmB w0 W z g cap t) : b ≠ z ∧ b ≠ g := by
  obtain ⟨E, ⟨cs, f, hb⟩, hE⟩ := h
  constructor
  · rintro rfl
    have := hm.b
    unfold Blk at this
    rw [hb] at this
    injection this with this
    injection this with _ e2 _
    rw [e2] at hE
    exact absurd hE (by decide +kernel)
  · rintro rfl
    rcases hm.own.2 with ⟨e, -⟩ | ⟨g', cap', cur, e, -, hh, -⟩
    · cases e
    · injection e with e1 e2 e3
      injection e1 with e1; injection e1 with e1 e1'; subst e1
      rw [hb] at hh
      injection hh with hh
      injection hh with _ e2 _
      rw [e2] at hE
      exact absurd hE (by decide +kernel)
/-- One action of a slice, at a later world. -/
theorem acts_late {w0 W V : World} {z g cap : Nat} {t : Tm} {A : Option Addr} {n c : Nat} {L : List Ac} (h : ActsV W (.slice A n c) L) (hm : TmB w0 W z g cap t) (hk : K2 z g W V) {j : Nat} {a : Ac} (hj : L[j]? = some a) :
    ∃ b o pv, A = some ⟨b, o, none⟩ ∧ NumsV V pv a.ps ∧ V.cell? ⟨b, o + j * 4, none⟩ = some (.int .i64 a.kind) ∧ V.cell? ⟨b, o + j * 4 + 1, none⟩ = some (.int .i32 a.r) ∧ V.cell? ⟨b, o + j * 4 + 2, none⟩ = some pv ∧ V.cell? ⟨b, o + j * 4 + 3, none⟩ = some (.int .u8 a.fin) := by
  obtain ⟨b, o, pv, rfl, hn, c0, c1, c2, c3⟩ := acts_at h hj
  have h4 : FourA W b := by
    obtain ⟨A', cap', M, e, -, -, -, -, -, ht⟩ := h
    injection e with e1 e2 e3
    exact ht b o e1.symm
  obtain ⟨n1, n2⟩ := h4.ne hm
  have hb := hk.block b (World.block_lt_of_cell? _ _ c0) n1 n2
  exact ⟨b, o, pv, rfl, hn.k2 hm hk, (World.cell?_of_block hb).trans c0, (World.cell?_of_block hb).trans c1, (World.cell?_of_block hb).trans c2, (World.cell?_of_block hb).trans c3⟩
theorem K2.own {z g : Nat} {W V : World} (h : K2 z g W V) {y : Nat} (hy : W.heap.size ≤ y) (o : Nat) (v : Value) : K2 z g W (V.setCell ⟨y, o, none⟩ v) :=
  ⟨h.os, h.tape, h.output, by rw [show (V.setCell ⟨y, o, none⟩ v).heap.size = V.heap.size by unfold World.setCell; simp]; exact h.size, fun b hb h1 h2 => (Below.heap_setCell V ⟨y, o, none⟩ v b (by show b ≠ y; omega)).trans (h.block b hb h1 h2)⟩
theorem TmB.far {w0 W : World} {z g cap : Nat} {t : Tm} (h : TmB w0 W z g cap t) {y : Nat} (h1 : y ≠ z) (h2 : y ≠ g) (hB : w0.heap.size ≤ y) (o : Nat) (v : Value) : TmB w0 (W.setCell ⟨y, o, none⟩ v) z g cap t :=
  h.keep (K2.set y y o W v) h1.symm h1.symm h2.symm h2.symm hB hB
theorem get_at (s : ByteArray) (k : Nat) (h : k < s.size) : (s.get! k) = s[k] := by
  have : s.get! k = s.data[k]! := rfl
  rw [this, getElem!_pos s.data k h]
  rfl
set_option maxHeartbeats 8000000 in
theorem twrite_any {w0 W : World} {z g cap : Nat} (t : Tm) (h : TmB w0 W z g cap t) (hT : Tabs w0) (hI : Inv t) (s : ByteArray) (hs : s.size ≤ 10000) (K : Nat) (hK : K ≤ 50000) (hp : StOk K t.p) (hb : t.bells ≤ 500000) :
    Calls Tryd.prog 11 #[.pointer (some ⟨z, 0, none⟩), .string s] W (Mv w0 W z g cap (writeM t s)) := by
  have HN := hide (tnone_any t h)
  have HF := hide (fun k => write_facts hI s hp k)
  have H0 := hide h
  clear h
  go_enter Tryd.func11, Tryd.ntmps11
  go_wp2_with fail
  refine HN.out.mono ?_; rintro e w1 ⟨rfl, rfl⟩
  go_wp2_with fail
  go_loopw [13] (fun jv wr => ∃ k : Nat, jv = .int .i64 (k : Int) ∧ k ≤ s.size ∧ Hid (TmB w0 wr z g cap (writeTo t s k)) ∧ Hid (K2 z g W wr)) (fun jv _ => s.size - (intOf jv).toNat)
  case atStart => exact ⟨0, rfl, by omega, H0, hide (K2.refl _ _ _)⟩
  case round =>
    clear H0 HN
    obtain ⟨k, rfl, hk, HW, HK⟩ := hrel
    by_cases hlt : k < s.size
    · have hks : (k : Int) < (s.size : Int) := by omega
      obtain ⟨f1, f2, f3⟩ := HF.out k
      have HST := hide (show writeTo t s (k + 1) = stepM (writeTo t s k) (s[k].toNat : Int) by rw [writeTo, get_at s k hlt])
      obtain ⟨u, hu⟩ : ∃ u, writeTo t s k = u := ⟨_, rfl⟩
      rw [hu] at HW HST f1 f2 f3
      clear hu
      obtain ⟨x, hx⟩ : ∃ x, ((s[k].toNat : Int)) = x := ⟨_, rfl⟩
      have hx0 : 0 ≤ x ∧ x ≤ 255 := by have := s[k].toNat_lt; omega
      have HFE := hide (fun (V : World) (hV : TmB w0 V z g cap u) => pfeed_any (K + k) u.p x V (by omega) (hT.u.below hV.below) f2 hx0.1 hx0.2)
      have HAC := hide (feed_acs u.p x)
      have HTWO := hide (feed_two u.p x)
      have HI2 := hide f1
      have hbu : u.bells ≤ 600000 := by omega
      rw [hx] at HST
      have HST2 := hide (show stepM u x = (feed u.p x).2.foldl actM { u with p := (feed u.p x).1 } from rfl)
      rw [← HST.out] at HST2
      clear f1 f2 f3 hx0 HST
      obtain ⟨q, hq⟩ : ∃ q, (feed u.p x).1 = q := ⟨_, rfl⟩
      obtain ⟨L, hL⟩ : ∃ L, (feed u.p x).2 = L := ⟨_, rfl⟩
      rw [hq, hL] at HFE HST2
      rw [hL] at HAC HTWO
      clear hq hL
      obtain ⟨R, C, cs, row, col, ⟨a, tx⟩, sy, wt, bl⟩ := u
      dsimp only at hbu
      obtain ⟨-, -, -, -, -, -, c6, c7, -⟩ := HW.out.reads
      have HFE2 := hide (show ∀ V, TmB w0 V z g cap ⟨R, C, cs, row, col, (a, tx), sy, wt, bl⟩ → Calls Tryd.prog 29 #[.agg #[.int .i64 (a : Int), .string tx], .int .u8 (s[k].toNat : Int)] V (FeedPost V (stPv q) L) from fun V hV => by rw [hx]; exact HFE.out V hV)
      clear HFE hx x
      have HWd := hide (HW.out.low (Below.refl _ _).drew)
      obtain ⟨wo, hwo⟩ : ∃ V, wr = V := ⟨_, rfl⟩
      rw [hwo] at HW HK HWd c6 c7 ⊢
      clear hwo
      go_wp2_with fail
      --ROUND
      refine wp_region_held_drew (S := (fun V => V.cell? ⟨z, 6, none⟩ = some (.int .i64 (a : Int)) ∧ V.cell? ⟨z, 7, none⟩ = some (.string tx))) (by kernel_rfl) ?_ (fun hHeld => ?_)
      · exact ⟨HWd.out.reads.2.2.2.2.2.2.1, HWd.out.reads.2.2.2.2.2.2.2.1⟩
      refine wpAnyH_at (i := 0) (v := ?vw1_0) (d := 17) rfl rfl (by kernel_rfl) (by kernel_rfl) (by kernel_rfl) (fun _ _ _ h => h) (Or.inl ⟨by rfl, fun w' hSw => ?hyw1_0⟩) (by assumption) ?restw1_0
      case hyw1_0 =>
        (try dsimp only at hSw)
        go_simp
        (try with_reducible rfl)
      (try simp only [Act.put, List.setIfInBounds_toArray, List.set_cons_zero, List.set_cons_succ])
      refine wpAnyH_at (i := 1) (v := ?vw2_1) (d := 18) rfl rfl (by kernel_rfl) (by kernel_rfl) (by kernel_rfl) (fun _ _ _ h => h) (Or.inl ⟨by rfl, fun w' hSw => ?hyw2_1⟩) (by assumption) ?restw2_1
      case hyw2_1 =>
        (try dsimp only at hSw)
        go_simp
        (try with_reducible rfl)
      (try simp only [Act.put, List.setIfInBounds_toArray, List.set_cons_zero, List.set_cons_succ])
      refine wpAnyH_at (i := 2) (v := ?vw3_2) (d := 19) rfl rfl (by kernel_rfl) (by kernel_rfl) (by kernel_rfl) (fun _ _ _ h => h) (Or.inl ⟨by rfl, fun w' hSw => ?hyw3_2⟩) (by assumption) ?restw3_2
      case hyw3_2 =>
        (try dsimp only at hSw)
        go_simp
        (try with_reducible rfl)
      (try simp only [Act.put, List.setIfInBounds_toArray, List.set_cons_zero, List.set_cons_succ])
      refine wpAnyH_at (i := 3) (v := ?vw4_3) (d := 20) rfl rfl (by kernel_rfl) (by kernel_rfl) (by kernel_rfl) (fun _ _ _ h => h) (Or.inl ⟨by rfl, fun w' hSw => ?hyw4_3⟩) (by assumption) ?restw4_3
      case hyw4_3 =>
        (try dsimp only at hSw)
        go_simp
        (try with_reducible rfl)
      (try simp only [Act.put, List.setIfInBounds_toArray, List.set_cons_zero, List.set_cons_succ])
      refine wpAnyH_at (i := 4) (v := ?vw5_4) (d := 21) rfl rfl (by kernel_rfl) (by kernel_rfl) (by kernel_rfl) (fun _ _ _ h => h) (Or.inl ⟨by rfl, fun w' hSw => ?hyw5_4⟩) (by assumption) ?restw5_4
      case hyw5_4 =>
        (try dsimp only at hSw)
        go_simp
        (try with_reducible rfl)
      (try simp only [Act.put, List.setIfInBounds_toArray, List.set_cons_zero, List.set_cons_succ])
      refine wpAnyH_at (i := 5) (v := ?vw6_5) (d := 22) rfl rfl (by kernel_rfl) (by kernel_rfl) (by kernel_rfl) (fun _ _ _ h => h) (Or.inl ⟨by rfl, fun w' hSw => ?hyw6_5⟩) (by assumption) ?restw6_5
      case hyw6_5 =>
        (try dsimp only at hSw)
        go_simp
        (try with_reducible rfl)
      (try simp only [Act.put, List.setIfInBounds_toArray, List.set_cons_zero, List.set_cons_succ])
      refine wpAnyH_at (i := 6) (v := ?vw7_6) (d := 23) rfl rfl (by kernel_rfl) (by kernel_rfl) (by kernel_rfl) (fun _ _ _ h => h) (Or.inl ⟨by rfl, fun w' hSw => ?hyw7_6⟩) (by assumption) ?restw7_6
      case hyw7_6 =>
        (try dsimp only at hSw)
        go_simp
        (try with_reducible rfl)
      (try simp only [Act.put, List.setIfInBounds_toArray, List.set_cons_zero, List.set_cons_succ])
      have HWo := HW
      obtain ⟨wd, hwd⟩ : ∃ V, wo.drew = V := ⟨_, rfl⟩
      have HKd := hide (show K2 z g wo wd by rw [← hwd]; exact K2.drew)
      have HDS := hide (show wd.heap.size = wo.heap.size by rw [← hwd]; rfl)
      rw [hwd] at HWd
      (try rw [hwd])
      clear hwd c6 c7
      refine wpAnyH_ready (rs := [7,11]) (by kernel_rfl) (by simp) ?_
      refine AllReadyH.cons rfl (fun K' hK' => ?_) (AllReadyH.cons rfl (fun K' hK' => ?_) AllReadyH.nil)
      · go_simp
        refine (HFE2.out _ HWd.out).mono ?_; rintro e w2 hfp
        obtain ⟨qa, qt, A, c, rfl, hqe, hacts, hb2⟩ := feed_open hfp
        have HQ := hide hqe
        clear hqe hfp
        have HW2 := hide (HWd.out.low hb2)
        have HKB2 := hide (HKd.out.trans (K2.of hb2))
        go_wp2_with fail
        refine hK'.out _ _ ?_ (fun hHeld => ?_)
        · exact ⟨HW2.out.reads.2.2.2.2.2.2.1, HW2.out.reads.2.2.2.2.2.2.2.1⟩
        clear hK' K'
        (try simp only [Act.put, List.getElem_toArray, List.getElem_cons_succ, List.getElem_cons_zero, List.setIfInBounds_toArray, List.set_cons_zero, List.set_cons_succ])
        refine wpAnyH_at (i := 8) (v := ?vw8_8) (d := 16) rfl rfl (by kernel_rfl) (by kernel_rfl) (by kernel_rfl) (fun _ _ _ h => h) (Or.inl ⟨by rfl, fun w' hSw => ?hyw8_8⟩) (by assumption) ?restw8_8
        case hyw8_8 =>
          (try dsimp only at hSw)
          go_simp
          (try with_reducible rfl)
        (try simp only [Act.put, List.setIfInBounds_toArray, List.set_cons_zero, List.set_cons_succ])
        refine wpAnyH_at (i := 9) (v := ?vw9_9) (d := 25) rfl rfl (by kernel_rfl) (by kernel_rfl) (by kernel_rfl) (fun _ _ _ h => h) (Or.inl ⟨by rfl, fun w' hSw => ?hyw9_9⟩) (by assumption) ?restw9_9
        case hyw9_9 =>
          (try dsimp only at hSw)
          go_simp
          (try with_reducible rfl)
        (try simp only [Act.put, List.setIfInBounds_toArray, List.set_cons_zero, List.set_cons_succ])
        refine wpAnyH_at (i := 10) (v := ?vw10_10) (d := 26) rfl rfl (by kernel_rfl) (by kernel_rfl) (by kernel_rfl) (fun _ _ _ h => h) (Or.inl ⟨by rfl, fun w' hSw => ?hyw10_10⟩) (by assumption) ?restw10_10
        case hyw10_10 =>
          (try dsimp only at hSw)
          go_simp
          (try with_reducible rfl)
        (try simp only [Act.put, List.setIfInBounds_toArray, List.set_cons_zero, List.set_cons_succ])
        have hbl : Below w2.heap.size w2 (w2.alloc (.cells #[.int .i64 0, .string ⟨#[]⟩] 54)) := (Below.refl _ _).alloc (Nat.le_refl _) _
        have HW3 := hide (HW2.out.low hbl)
        have HA3 := hide (hacts.below hbl)
        have HK3 := hide (HKB2.out.trans (K2.of hbl))
        have HBY := hide (Blk.new w2 54 [.int .i64 0, .string ⟨#[]⟩])
        rw [show [Value.int .i64 0, .string ⟨#[]⟩].toArray = #[.int .i64 0, .string ⟨#[]⟩] from rfl] at HBY
        have hyo : wo.heap.size ≤ w2.heap.size := by have := hb2.size; have := HDS.out; omega
        clear hbl hb2
        refine wpAnyH_ready (rs := [11]) (by kernel_rfl) (by simp) ?_
        refine AllReadyH.cons rfl (fun K' hK' => ?_) AllReadyH.nil
        go_simp
        refine hK'.out _ _ ?_ (fun hHeld => ?_)
        · exact ⟨HW3.out.reads.2.2.2.2.2.2.1, HW3.out.reads.2.2.2.2.2.2.2.1⟩
        clear hK' K'
        (try simp only [Act.put, List.getElem_toArray, List.getElem_cons_succ, List.getElem_cons_zero, List.setIfInBounds_toArray, List.set_cons_zero, List.set_cons_succ])
        obtain ⟨y, hy⟩ : ∃ q, w2.heap.size = q := ⟨_, rfl⟩
        obtain ⟨w3, hw3⟩ : ∃ V, w2.alloc (.cells #[.int .i64 0, .string ⟨#[]⟩] 54) = V := ⟨_, rfl⟩
        rw [hw3] at HW3 HA3 HK3
        rw [hw3, hy] at HBY
        rw [hy] at hyo
        rw [hw3, hy]
        clear hw3 hy hacts
        have hyz : y ≠ z := by have := HWo.out.b.lt; omega
        have hyg : y ≠ g := by have := HWo.out.own.ltG; omega
        have b0 := HBY.out.cell (i := 0) rfl
        have b1 := HBY.out.cell (i := 1) rfl
        have yf := fun i => HBY.out.frozen i
        have HBY4 := hide ((HBY.out.set 0 (.int .i64 qa)).set 1 (.string qt))
        have HA4 := hide (acts_set2 HA3.out HBY.out rfl (by decide) (.int .i64 qa) (.string qt))
        have HK4 := hide ((HK3.out.own hyo 0 (.int .i64 qa)).own hyo 1 (.string qt))
        have HW4 := hide ((HW3.out.far hyz hyg (Nat.le_trans HWo.out.sz hyo) 0 (.int .i64 qa)).far hyz hyg (Nat.le_trans HWo.out.sz hyo) 1 (.string qt))
        refine wpAnyH_ready (rs := [12]) (by kernel_rfl) (by simp) ?_
        refine AllReadyH.cons rfl (fun K' hK' => ?_) AllReadyH.nil
        go_simp
        refine hK'.out _ _ ?_ (fun hHeld => ?_)
        · exact ⟨HW4.out.reads.2.2.2.2.2.2.1, HW4.out.reads.2.2.2.2.2.2.2.1⟩
        clear hK' K'
        (try simp only [Act.put, List.getElem_toArray, List.getElem_cons_succ, List.getElem_cons_zero, List.setIfInBounds_toArray, List.set_cons_zero, List.set_cons_succ])
        refine wpAnyH_at (i := 13) (v := ?vw11_13) (d := 6) rfl rfl (by kernel_rfl) (by kernel_rfl) (by kernel_rfl) (fun _ _ _ h => h) (Or.inl ⟨by rfl, fun w' hSw => ?hyw11_13⟩) (by assumption) ?restw11_13
        case hyw11_13 =>
          (try dsimp only at hSw)
          go_simp
          (try with_reducible rfl)
        (try simp only [Act.put, List.setIfInBounds_toArray, List.set_cons_zero, List.set_cons_succ])
        refine wpAnyH_done (by kernel_rfl) ?_ _
        obtain ⟨w4, hw4⟩ : ∃ V, (w3.setCell ⟨y, 0, none⟩ (.int .i64 qa)).setCell ⟨y, 1, none⟩ (.string qt) = V := ⟨_, rfl⟩
        rw [hw4] at HBY4 HA4 HK4 HW4
        rw [hw4]
        clear hw4 HBY HA3 HK3 HW3 b0 b1 yf
        obtain ⟨q1, q2⟩ := q
        have hqe := HQ.out
        unfold stPv at hqe
        injection hqe with hqe
        simp only [Array.mk.injEq, List.cons.injEq, Value.int.injEq, Value.string.injEq, true_and, and_true] at hqe
        obtain ⟨hqa, hqt⟩ := hqe
        subst hqa hqt
        (try dsimp only at *)
        have d0 := HBY4.out.cell (i := 0) rfl
        have d1 := HBY4.out.cell (i := 1) rfl
        obtain ⟨-, -, -, -, -, -, c6, c7, -⟩ := HW4.out.reads
        have bf := fun i => HW4.out.b.frozen i
        go_wp2_with fail
        have HW5 := hide ((HW4.out.setZ ⟨R, C, cs, row, col, (q1, tx), sy, wt, bl⟩ 6 (.int .i64 (q1 : Int)) rfl rfl).setZ ⟨R, C, cs, row, col, (q1, q2), sy, wt, bl⟩ 7 (.string q2) rfl rfl)
        have HK5 := hide ((K2.set z g 6 w4 (.int .i64 (q1 : Int))).trans (K2.set z g 7 (w4.setCell ⟨z, 6, none⟩ (.int .i64 (q1 : Int))) (.string q2)))
        obtain ⟨w5, hw5⟩ : ∃ V, (w4.setCell ⟨z, 6, none⟩ (.int .i64 (q1 : Int))).setCell ⟨z, 7, none⟩ (.string q2) = V := ⟨_, rfl⟩
        rw [hw5] at HW5 HK5
        rw [hw5]
        clear hw5 d0 d1 c6 c7 bf HBY4
        obtain ⟨lq, hlq⟩ : ∃ n, L.length = n := ⟨_, rfl⟩
        have HLQ := hide hlq
        have hl2 : lq ≤ 2 := by rw [← hlq]; exact HTWO.out
        rw [hlq] at HA4 ⊢
        clear hlq
        go_loopw [33] (fun jv wr => ∃ j : Nat, jv = .int .i64 (j : Int) ∧ j ≤ lq ∧ Hid (TmB w0 wr z g cap ((L.take j).foldl actM ⟨R, C, cs, row, col, (q1, q2), sy, wt, bl⟩)) ∧ Hid (K2 z g w5 wr)) (fun jv _ => lq - (intOf jv).toNat)
        case atStart => exact ⟨0, rfl, by omega, HW5, hide (K2.refl _ _ _)⟩
        case round =>
          obtain ⟨j, rfl, hj, HV, HKV⟩ := hrel
          by_cases hjl : j < lq
          · have hjj : (j : Int) < (lq : Int) := by omega
            obtain ⟨ac, hac⟩ : ∃ x, L[j]? = some x := ⟨_, List.getElem?_eq_getElem (by rw [HLQ.out]; exact hjl)⟩
            obtain ⟨b, o, pv, rfl, hnv, a0, a1, a2, a3⟩ := acts_late HA4.out HW4.out (HK5.out.trans HKV.out) hac
            have hok := HAC.out ac (List.mem_of_getElem? hac)
            obtain ⟨hi6, -, hb6⟩ := acts_facts ⟨R, C, cs, row, col, (q1, q2), sy, wt, bl⟩ (L.take j) (HI2.out.setP (q1, q2))
            have HSTJ := hide (show (L.take (j + 1)).foldl actM ⟨R, C, cs, row, col, (q1, q2), sy, wt, bl⟩ = actM ((L.take j).foldl actM ⟨R, C, cs, row, col, (q1, q2), sy, wt, bl⟩) ac by rw [List.take_add_one, hac]; simp)
            obtain ⟨ak, ar, aps, af⟩ := ac
            dsimp only at a0 a1 a2 a3 hnv
            obtain ⟨tj, htj⟩ : ∃ x, (L.take j).foldl actM ⟨R, C, cs, row, col, (q1, q2), sy, wt, bl⟩ = x := ⟨_, rfl⟩
            rw [htj] at HV HSTJ hi6 hb6
            have htl : (L.take j).length ≤ 2 := by rw [List.length_take]; omega
            dsimp only at hb6
            obtain ⟨pA, pc, rfl⟩ := hnv.form
            have hbl : Below wr.heap.size wr (wr.alloc (.cells #[.int .i64 ak, .int .i32 ar, .slice pA aps.length pc, .int .u8 af] 72)) := (Below.refl _ _).alloc (Nat.le_refl _) _
            have HACT := hide (tact_any tj (HV.out.low hbl) hT hi6 (by omega) ak ar af (.slice pA aps.length pc) aps (hnv.below hbl) hok)
            have HKB := hide (K2.of (z := z) (g := g) hbl)
            obtain ⟨pl, hpl⟩ : ∃ n, aps.length = n := ⟨_, rfl⟩
            rw [hpl] at a2 HACT HKB
            clear hac hnv hok hi6 hb6 htl hbl hpl htj
            go_wp2_with fail
            refine HACT.out.mono ?_; rintro e w7 ⟨rfl, H7, K7⟩
            have H7 := hide H7
            have K7 := hide ((HKV.out.trans HKB.out).trans K7)
            go_wp2
            exact ⟨⟨j + 1, by go_num, by omega, hide (by rw [HSTJ.out]; exact H7.out), K7⟩, by simp [intOf]; omega⟩
          · obtain rfl : j = lq := by omega
            have hjj : ¬ (j : Int) < (j : Int) := by omega
            have ht : L.take j = L := List.take_of_length_le (by rw [HLQ.out]; exact Nat.le_refl _)
            rw [ht, ← HST2.out] at HV
            have HKE := hide (((HK.out.trans HK4.out).trans HK5.out).trans HKV.out)
            clear ht
            go_wp2
            exact ⟨⟨k + 1, by go_num, by omega, HV, HKE⟩, by simp [intOf]; omega⟩
      · have hbl : Below wd.heap.size wd (wd.alloc (.cells #[.int .i64 0, .string ⟨#[]⟩] 54)) := (Below.refl _ _).alloc (Nat.le_refl _) _
        have HWb := hide (HWd.out.low hbl)
        have HKb := hide (HKd.out.trans (K2.of hbl))
        have HBY := hide (Blk.new wd 54 [.int .i64 0, .string ⟨#[]⟩])
        rw [show [Value.int .i64 0, .string ⟨#[]⟩].toArray = #[.int .i64 0, .string ⟨#[]⟩] from rfl] at HBY
        have hyo : wo.heap.size ≤ wd.heap.size := by have := HDS.out; omega
        clear hbl
        go_simp
        refine hK'.out _ _ ?_ (fun hHeld => ?_)
        · exact ⟨HWb.out.reads.2.2.2.2.2.2.1, HWb.out.reads.2.2.2.2.2.2.2.1⟩
        clear hK' K'
        (try simp only [Act.put, List.getElem_toArray, List.getElem_cons_succ, List.getElem_cons_zero, List.setIfInBounds_toArray, List.set_cons_zero, List.set_cons_succ])
        obtain ⟨y, hy⟩ : ∃ q, wd.heap.size = q := ⟨_, rfl⟩
        obtain ⟨wb, hwb⟩ : ∃ V, wd.alloc (.cells #[.int .i64 0, .string ⟨#[]⟩] 54) = V := ⟨_, rfl⟩
        rw [hwb] at HWb HKb
        rw [hwb, hy] at HBY
        rw [hy] at hyo
        rw [hwb, hy]
        clear hwb hy
        refine wpAnyH_ready (rs := [7]) (by kernel_rfl) (by simp) ?_
        refine AllReadyH.cons rfl (fun K' hK' => ?_) AllReadyH.nil
        go_simp
        refine (HFE2.out _ HWb.out).mono ?_; rintro e w2 hfp
        obtain ⟨qa, qt, A, c, rfl, hqe, hacts, hb2⟩ := feed_open hfp
        have HQ := hide hqe
        clear hqe hfp
        have HW2 := hide (HWb.out.low hb2)
        have HW3 := HW2
        have HK3 := hide (HKb.out.trans (K2.of hb2))
        have HA3 := hide hacts
        replace HBY := hide (HBY.out.below hb2)
        clear hb2 hacts
        go_wp2_with fail
        refine hK'.out _ _ ?_ (fun hHeld => ?_)
        · exact ⟨HW2.out.reads.2.2.2.2.2.2.1, HW2.out.reads.2.2.2.2.2.2.2.1⟩
        clear hK' K'
        (try simp only [Act.put, List.getElem_toArray, List.getElem_cons_succ, List.getElem_cons_zero, List.setIfInBounds_toArray, List.set_cons_zero, List.set_cons_succ])
        refine wpAnyH_at (i := 8) (v := ?vw12_8) (d := 16) rfl rfl (by kernel_rfl) (by kernel_rfl) (by kernel_rfl) (fun _ _ _ h => h) (Or.inl ⟨by rfl, fun w' hSw => ?hyw12_8⟩) (by assumption) ?restw12_8
        case hyw12_8 =>
          (try dsimp only at hSw)
          go_simp
          (try with_reducible rfl)
        (try simp only [Act.put, List.setIfInBounds_toArray, List.set_cons_zero, List.set_cons_succ])
        refine wpAnyH_at (i := 9) (v := ?vw13_9) (d := 25) rfl rfl (by kernel_rfl) (by kernel_rfl) (by kernel_rfl) (fun _ _ _ h => h) (Or.inl ⟨by rfl, fun w' hSw => ?hyw13_9⟩) (by assumption) ?restw13_9
        case hyw13_9 =>
          (try dsimp only at hSw)
          go_simp
          (try with_reducible rfl)
        (try simp only [Act.put, List.setIfInBounds_toArray, List.set_cons_zero, List.set_cons_succ])
        refine wpAnyH_at (i := 10) (v := ?vw14_10) (d := 26) rfl rfl (by kernel_rfl) (by kernel_rfl) (by kernel_rfl) (fun _ _ _ h => h) (Or.inl ⟨by rfl, fun w' hSw => ?hyw14_10⟩) (by assumption) ?restw14_10
        case hyw14_10 =>
          (try dsimp only at hSw)
          go_simp
          (try with_reducible rfl)
        (try simp only [Act.put, List.setIfInBounds_toArray, List.set_cons_zero, List.set_cons_succ])
        obtain ⟨w3, hw3⟩ : ∃ V, w2 = V := ⟨_, rfl⟩
        rw [hw3] at HW3 HK3 HA3 HBY
        rw [hw3]
        clear hw3
        have hyz : y ≠ z := by have := HWo.out.b.lt; omega
        have hyg : y ≠ g := by have := HWo.out.own.ltG; omega
        have b0 := HBY.out.cell (i := 0) rfl
        have b1 := HBY.out.cell (i := 1) rfl
        have yf := fun i => HBY.out.frozen i
        have HBY4 := hide ((HBY.out.set 0 (.int .i64 qa)).set 1 (.string qt))
        have HA4 := hide (acts_set2 HA3.out HBY.out rfl (by decide) (.int .i64 qa) (.string qt))
        have HK4 := hide ((HK3.out.own hyo 0 (.int .i64 qa)).own hyo 1 (.string qt))
        have HW4 := hide ((HW3.out.far hyz hyg (Nat.le_trans HWo.out.sz hyo) 0 (.int .i64 qa)).far hyz hyg (Nat.le_trans HWo.out.sz hyo) 1 (.string qt))
        refine wpAnyH_ready (rs := [12]) (by kernel_rfl) (by simp) ?_
        refine AllReadyH.cons rfl (fun K' hK' => ?_) AllReadyH.nil
        go_simp
        refine hK'.out _ _ ?_ (fun hHeld => ?_)
        · exact ⟨HW4.out.reads.2.2.2.2.2.2.1, HW4.out.reads.2.2.2.2.2.2.2.1⟩
        clear hK' K'
        (try simp only [Act.put, List.getElem_toArray, List.getElem_cons_succ, List.getElem_cons_zero, List.setIfInBounds_toArray, List.set_cons_zero, List.set_cons_succ])
        refine wpAnyH_at (i := 13) (v := ?vw15_13) (d := 6) rfl rfl (by kernel_rfl) (by kernel_rfl) (by kernel_rfl) (fun _ _ _ h => h) (Or.inl ⟨by rfl, fun w' hSw => ?hyw15_13⟩) (by assumption) ?restw15_13
        case hyw15_13 =>
          (try dsimp only at hSw)
          go_simp
          (try with_reducible rfl)
        (try simp only [Act.put, List.setIfInBounds_toArray, List.set_cons_zero, List.set_cons_succ])
        refine wpAnyH_done (by kernel_rfl) ?_ _
        obtain ⟨w4, hw4⟩ : ∃ V, (w3.setCell ⟨y, 0, none⟩ (.int .i64 qa)).setCell ⟨y, 1, none⟩ (.string qt) = V := ⟨_, rfl⟩
        rw [hw4] at HBY4 HA4 HK4 HW4
        rw [hw4]
        clear hw4 HBY HA3 HK3 HW3 b0 b1 yf
        obtain ⟨q1, q2⟩ := q
        have hqe := HQ.out
        unfold stPv at hqe
        injection hqe with hqe
        simp only [Array.mk.injEq, List.cons.injEq, Value.int.injEq, Value.string.injEq, true_and, and_true] at hqe
        obtain ⟨hqa, hqt⟩ := hqe
        subst hqa hqt
        (try dsimp only at *)
        have d0 := HBY4.out.cell (i := 0) rfl
        have d1 := HBY4.out.cell (i := 1) rfl
        obtain ⟨-, -, -, -, -, -, c6, c7, -⟩ := HW4.out.reads
        have bf := fun i => HW4.out.b.frozen i
        go_wp2_with fail
        have HW5 := hide ((HW4.out.setZ ⟨R, C, cs, row, col, (q1, tx), sy, wt, bl⟩ 6 (.int .i64 (q1 : Int)) rfl rfl).setZ ⟨R, C, cs, row, col, (q1, q2), sy, wt, bl⟩ 7 (.string q2) rfl rfl)
        have HK5 := hide ((K2.set z g 6 w4 (.int .i64 (q1 : Int))).trans (K2.set z g 7 (w4.setCell ⟨z, 6, none⟩ (.int .i64 (q1 : Int))) (.string q2)))
        obtain ⟨w5, hw5⟩ : ∃ V, (w4.setCell ⟨z, 6, none⟩ (.int .i64 (q1 : Int))).setCell ⟨z, 7, none⟩ (.string q2) = V := ⟨_, rfl⟩
        rw [hw5] at HW5 HK5
        rw [hw5]
        clear hw5 d0 d1 c6 c7 bf HBY4
        obtain ⟨lq, hlq⟩ : ∃ n, L.length = n := ⟨_, rfl⟩
        have HLQ := hide hlq
        have hl2 : lq ≤ 2 := by rw [← hlq]; exact HTWO.out
        rw [hlq] at HA4 ⊢
        clear hlq
        go_loopw [33] (fun jv wr => ∃ j : Nat, jv = .int .i64 (j : Int) ∧ j ≤ lq ∧ Hid (TmB w0 wr z g cap ((L.take j).foldl actM ⟨R, C, cs, row, col, (q1, q2), sy, wt, bl⟩)) ∧ Hid (K2 z g w5 wr)) (fun jv _ => lq - (intOf jv).toNat)
        case atStart => exact ⟨0, rfl, by omega, HW5, hide (K2.refl _ _ _)⟩
        case round =>
          obtain ⟨j, rfl, hj, HV, HKV⟩ := hrel
          by_cases hjl : j < lq
          · have hjj : (j : Int) < (lq : Int) := by omega
            obtain ⟨ac, hac⟩ : ∃ x, L[j]? = some x := ⟨_, List.getElem?_eq_getElem (by rw [HLQ.out]; exact hjl)⟩
            obtain ⟨b, o, pv, rfl, hnv, a0, a1, a2, a3⟩ := acts_late HA4.out HW4.out (HK5.out.trans HKV.out) hac
            have hok := HAC.out ac (List.mem_of_getElem? hac)
            obtain ⟨hi6, -, hb6⟩ := acts_facts ⟨R, C, cs, row, col, (q1, q2), sy, wt, bl⟩ (L.take j) (HI2.out.setP (q1, q2))
            have HSTJ := hide (show (L.take (j + 1)).foldl actM ⟨R, C, cs, row, col, (q1, q2), sy, wt, bl⟩ = actM ((L.take j).foldl actM ⟨R, C, cs, row, col, (q1, q2), sy, wt, bl⟩) ac by rw [List.take_add_one, hac]; simp)
            obtain ⟨ak, ar, aps, af⟩ := ac
            dsimp only at a0 a1 a2 a3 hnv
            obtain ⟨tj, htj⟩ : ∃ x, (L.take j).foldl actM ⟨R, C, cs, row, col, (q1, q2), sy, wt, bl⟩ = x := ⟨_, rfl⟩
            rw [htj] at HV HSTJ hi6 hb6
            have htl : (L.take j).length ≤ 2 := by rw [List.length_take]; omega
            dsimp only at hb6
            obtain ⟨pA, pc, rfl⟩ := hnv.form
            have hbl : Below wr.heap.size wr (wr.alloc (.cells #[.int .i64 ak, .int .i32 ar, .slice pA aps.length pc, .int .u8 af] 72)) := (Below.refl _ _).alloc (Nat.le_refl _) _
            have HACT := hide (tact_any tj (HV.out.low hbl) hT hi6 (by omega) ak ar af (.slice pA aps.length pc) aps (hnv.below hbl) hok)
            have HKB := hide (K2.of (z := z) (g := g) hbl)
            obtain ⟨pl, hpl⟩ : ∃ n, aps.length = n := ⟨_, rfl⟩
            rw [hpl] at a2 HACT HKB
            clear hac hnv hok hi6 hb6 htl hbl hpl htj
            go_wp2_with fail
            refine HACT.out.mono ?_; rintro e w7 ⟨rfl, H7, K7⟩
            have H7 := hide H7
            have K7 := hide ((HKV.out.trans HKB.out).trans K7)
            go_wp2
            exact ⟨⟨j + 1, by go_num, by omega, hide (by rw [HSTJ.out]; exact H7.out), K7⟩, by simp [intOf]; omega⟩
          · obtain rfl : j = lq := by omega
            have hjj : ¬ (j : Int) < (j : Int) := by omega
            have ht : L.take j = L := List.take_of_length_le (by rw [HLQ.out]; exact Nat.le_refl _)
            rw [ht, ← HST2.out] at HV
            have HKE := hide (((HK.out.trans HK4.out).trans HK5.out).trans HKV.out)
            clear ht
            go_wp2
            exact ⟨⟨k + 1, by go_num, by omega, HV, HKE⟩, by simp [intOf]; omega⟩
      --END
    · obtain rfl : k = s.size := by omega
      go_wp2
      go_end0
      exact Mv.mk HW.out HK.out
end Go.Proofs.YtmemdhmjhckmaaaDoor
namespace Go.Proofs.YtmemdhmjhckmaaaDoor
open Go.RowKit
set_option maxRecDepth 100000

def newM (R C : Nat) : Tm := ⟨R, C, List.replicate (R * C) blankC, 0, 0, (0, ⟨#[]⟩), ⟨0, 0, 0, false, false, false⟩, false, 0⟩
def frM (t : Tm) : Fr := ⟨t.rows, t.cols, t.cs, t.row, t.col⟩
theorem may_bd {R C : Nat} (h : mayB R C = true) : (2 ≤ R ∧ R ≤ 100) ∧ 8 ≤ C ∧ C ≤ 200 := by
  unfold mayB at h
  simp at h
  omega
theorem Inv.new {R C : Nat} (h : mayB R C = true) : Inv (newM R C) := by
  have hb := may_bd h
  have hv := newF_valid h
  rw [(newF_ok h).1] at hv
  have hk : validF ⟨R, C, List.replicate (R * C) blankC, 0, 0⟩ = validL (List.replicate (R * C) blankC) R C := validF_of h (by simp) (by omega)
  rw [hk] at hv
  exact ⟨hb.1, hb.2, by show (List.replicate (R * C) blankC).length = _; simp; rfl, by show 0 < R; omega, by show 0 < C; omega, hv, by show styC ⟨0, 0, 0, false, false, false⟩ = true; decide⟩
theorem Inv.fr {t : Tm} (h : Inv t) : validF (frM t) = true := by
  have hm : mayB t.rows t.cols = true := by
    have := h.hR; have := h.hC
    unfold mayB
    simp
    omega
  have hk : validF (frM t) = validL t.cs t.rows t.cols := validF_of hm (by rw [h.hL]; push_cast; rfl) (by have := h.hrow; have := h.hcol; omega)
  rw [hk]
  exact h.hv
set_option maxHeartbeats 4000000 in
theorem tnew_any (R C : Nat) (hm : mayB R C = true) (w0 W : World) (hT : Tabs w0) (hb : Below w0.heap.size w0 W) :
    Calls Tryd.prog 9 #[.int .i64 (R : Int), .int .i64 (C : Int)] W fun e W' => ∃ z g cap, e = .returned (.tuple #[.pointer (some ⟨z, 0, none⟩), .int .i64 0]) ∧ TmB w0 W' z g cap (newM R C) ∧ Below W.heap.size W W' ∧ W.heap.size ≤ z ∧ W.heap.size ≤ g := by
  have hbd := may_bd hm
  have hsz := hb.size
  have HNF := hide (new_frame R C W (hT.b.below' hb))
  obtain ⟨hnf, hne⟩ := newF_ok hm
  rw [hnf, hne] at HNF
  have HB := hide hb
  obtain ⟨n, hn⟩ : ∃ n, R * C = n := ⟨_, rfl⟩
  have hn0 : 0 < n := by rw [← hn]; exact Nat.mul_pos (by omega) (by omega)
  rw [hn] at HNF
  have HNN := hide hn
  clear hb hnf hne hn
  go_enter Tryd.func9, Tryd.ntmps9
  go_wp2_with fail
  refine HNF.out.mono ?_; rintro e w1 ⟨v', rfl, hf, hb1⟩
  obtain ⟨g, cap, rfl, hcap, hown, hg⟩ := (hf.mono hsz).open (by simp) hn0
  have hgW : W.heap.size ≤ g := by
    obtain ⟨g', cap', e, -, -, hg'⟩ := hf.open (by simp) hn0
    injection e with e
    simp only [Array.mk.injEq, List.cons.injEq, Value.slice.injEq, Option.some.injEq, Addr.mk.injEq] at e
    have := e.2.2.1.1.1
    omega
  have HOW := hide hown
  have HB1 := hide hb1
  have hl1 := hb1.size
  have hgl := hown.ltG
  have hbl1 : Below w1.heap.size w1 (w1.alloc (.cells #[.int .i64 (R : Int), .int .i64 (C : Int), .slice (some ⟨g, 0, none⟩) n cap, .int .i64 0, .int .i64 0] 35)) := (Below.refl _ _).alloc (Nat.le_refl _) _
  have HBL := hide hbl1
  clear hf hown hb1 HNF hbl1
  go_wp2_with fail
  obtain ⟨w2, hw2⟩ : ∃ V, w1.alloc (.cells #[.int .i64 (R : Int), .int .i64 (C : Int), .slice (some ⟨g, 0, none⟩) n cap, .int .i64 0, .int .i64 0] 35) = V := ⟨_, rfl⟩
  rw [hw2] at HBL
  (try rw [hw2])
  go_wp2
  go_ret2
  have hz2 : w2.heap.size = w1.heap.size + 1 := by rw [← hw2]; simp
  have hbl3 : Below w2.heap.size w2 (w2.alloc (.cells (tmCs (newM R C) g cap).toArray 56)) := (Below.refl _ _).alloc (Nat.le_refl _) _
  have hl2 := HBL.out.size
  have hcs : tmCs (newM R C) g cap = [.bool true, .int .i64 (R : Int), .int .i64 (C : Int), .slice (some ⟨g, 0, none⟩) n cap, .int .i64 0, .int .i64 0, .int .i64 0, .string ⟨#[]⟩, .int .i64 0, .bool false, .bool false, .bool false, .bool false, .int .i64 0] := by
    unfold tmCs tmC newM
    dsimp only
    rw [List.length_replicate, HNN.out]
    rfl
  have hbk : Blk (w2.alloc (.cells (tmCs (newM R C) g cap).toArray 56)) (w1.heap.size + 1) 56 (tmCs (newM R C) g cap) := by rw [← hz2]; exact Blk.new _ _ _
  have how := (HOW.out.below HBL.out).below hbl3
  have hbe := HB.out.trans ((HB1.out.trans ((HBL.out.trans (hbl3.mono hl2)).mono hl1)).mono hsz)
  have hbw := HB1.out.trans ((HBL.out.trans (hbl3.mono hl2)).mono hl1)
  rw [← HNN.out] at how
  have hfin : TmB w0 (w2.alloc (.cells (tmCs (newM R C) g cap).toArray 56)) (w1.heap.size + 1) g cap (newM R C) :=
    ⟨hbk, by show OwnC _ _ (.slice _ (List.replicate (R * C) blankC).length cap) _; rw [List.length_replicate]; exact how, by omega, by omega, hbe, hcap⟩
  rw [hcs] at hfin hbw
  exact ⟨w1.heap.size + 1, g, cap, rfl, hfin, hbw, by omega, hgW⟩
set_option maxHeartbeats 4000000 in
theorem tbells_any {w0 W : World} {z g cap : Nat} (t : Tm) (h : TmB w0 W z g cap t) : Calls Tryd.prog 15 #[.pointer (some ⟨z, 0, none⟩)] W fun e w' => e = .returned (.int .i64 (t.bells : Int)) ∧ W = w' := by
  have HN := hide (tnone_any t h)
  obtain ⟨R, C, cs, row, col, ⟨a, tx⟩, s, wt, bl⟩ := t
  obtain ⟨-, -, -, -, -, -, -, -, -, -, -, -, -, c13⟩ := h.reads
  clear h
  go_enter Tryd.func15, Tryd.ntmps15
  go_wp2_with fail
  refine HN.out.mono ?_; rintro e w1 ⟨rfl, rfl⟩
  go_wp2
  go_ret
  exact ⟨rfl, rfl⟩
end Go.Proofs.YtmemdhmjhckmaaaDoor
namespace Go.Proofs.YtmemdhmjhckmaaaDoor
open Go.RowKit
set_option maxRecDepth 100000

set_option maxHeartbeats 4000000 in
theorem tframe_any {w0 W : World} {z g cap : Nat} (t : Tm) (h : TmB w0 W z g cap t) (h0 : 0 < t.cs.length) (h9 : t.cs.length ≤ 20000) :
    Calls Tryd.prog 14 #[.pointer (some ⟨z, 0, none⟩)] W fun e w' => ∃ v', e = .returned v' ∧ FrOwn w' W.heap.size v' (frM t) ∧ Below W.heap.size W w' := by
  obtain ⟨R, C, cs, row, col, ⟨a, tx⟩, s, wt, bl⟩ := t
  dsimp only at h0 h9
  obtain ⟨n, hn⟩ : ∃ n, cs.length = n := ⟨_, rfl⟩
  rw [hn] at h0 h9
  have HN := hide hn
  have hcapn : n ≤ cap := by
    rcases h.own.2 with ⟨e, -⟩ | ⟨g', cap', cur, e, -, -, h1, -⟩
    · cases e
    · injection e with e1 e2 e3
      rw [e3, ← hn]; exact h1
  have hcapm := h.hcap
  have HB0 := hide (show Below W.heap.size W (W.alloc (.cells #[.int .i64 0, .int .i64 0, .slice none 0 0, .int .i64 0, .int .i64 0] 35)) from (Below.refl _ _).alloc (Nat.le_refl _) _)
  have H1 := hide (h.low HB0.out)
  have HNO := hide (tnone_any _ H1.out)
  have HB := hide (show Below W.heap.size W ((W.alloc (.cells (frCells 0 0 (.slice none 0 0) 0 0).toArray 35)).alloc (.cells (frCells R C (.slice (some ⟨g, 0, none⟩) n cap) row col).toArray 35)) from ((Below.refl _ _).alloc (Nat.le_refl _) _).alloc (by simp) _)
  have HZ := hide ((Blk.new W 35 (frCells 0 0 (.slice none 0 0) 0 0)).alloc (.cells (frCells R C (.slice (some ⟨g, 0, none⟩) n cap) row col).toArray 35))
  have HK := hide (Blk.new (W.alloc (.cells (frCells 0 0 (.slice none 0 0) 0 0).toArray 35)) 35 (frCells R C (.slice (some ⟨g, 0, none⟩) n cap) row col))
  rw [World.size_alloc] at HK
  have HCL := hide (show ClsAt W (some ⟨g, 0, none⟩) cs from h.own.cls)
  obtain ⟨-, c1, c2, c3, c4, c5, -⟩ := H1.out.reads
  rw [hn] at c3
  obtain ⟨i0, hi, hz0, hz1, hz2⟩ := info_parts infoC
  clear h hn
  go_enter Tryd.func14, Tryd.ntmps14
  go_wp2_with fail
  refine HNO.out.mono ?_; rintro e w1 ⟨rfl, rfl⟩
  go_wp2_with (first
    | (at_builtin; refine wpList_append_own _ rfl _ _ 33 rfl (W.heap.size + 1 + 1) 82 i0 _ 6 32 Tryd.underlying33 hi hz0 hz1 hz2 (by rfl) (by decide) (.slice none 0 0) 0 [] rfl ⟨rfl, .inl ⟨rfl, rfl⟩⟩ ⟨g, 0, none⟩ n cap (flatC cs) rfl (by rw [flatC_len, HN.out]) ((show ClsAt _ _ _ from HCL.out.below HB.out).flat) (flatC_one cs) (by unfold maxLen; omega) (by omega) (by simp) ?_; intro v' w2 hown1 hgr _; have hown := ownC_of HN.out hown1; obtain ⟨A2, c2', hv2, hc2, hcm2⟩ := hown.form2; rw [HN.out] at hv2 hc2; subst hv2; have HOWN := hide hown; have HB2 := hide (HB.out.grown hgr (by simp; omega) (fun k e => by cases e)); have hK2 : Blk w2 (W.heap.size + 1) 35 (frCells R C (.slice (some ⟨g, 0, none⟩) n cap) row col) := (hgr.block _ HK.out.lt (by simp [Value.ownBlock])).trans HK.out; have hZ2 : Blk w2 W.heap.size 35 (frCells 0 0 (.slice none 0 0) 0 0) := (hgr.block _ HZ.out.lt (by simp [Value.ownBlock])).trans HZ.out; have HK2 := hide hK2; have HZ2 := hide hZ2; have k0 := hK2.cell (i := 0) rfl; have k1 := hK2.cell (i := 1) rfl; have k2 := hK2.cell (i := 2) rfl; have k3 := hK2.cell (i := 3) rfl; have k4 := hK2.cell (i := 4) rfl; have kf := hK2.frozen 2; have z0 := hZ2.cell (i := 0) rfl; have z1 := hZ2.cell (i := 1) rfl; have z2 := hZ2.cell (i := 2) rfl; have z3 := hZ2.cell (i := 3) rfl; have z4 := hZ2.cell (i := 4) rfl; have zf := fun i => hZ2.frozen i; clear hown hown1 hgr hK2 hZ2)
    | fail)
  have hZf := (((((HZ2.out.far (p := ⟨W.heap.size + 1, 2, none⟩) (by simp) (.slice A2 n c2')).set 0 (.int .i64 (R : Int))).set 1 (.int .i64 (C : Int))).set 2 (.slice A2 n c2')).set 3 (.int .i64 (row : Int))).set 4 (.int .i64 (col : Int))
  have hHf := ((((((HOWN.out.low (p := ⟨W.heap.size + 1, 2, none⟩) (by simp) (.slice A2 n c2')).low (p := ⟨W.heap.size, 0, none⟩) (by simp; omega) (.int .i64 (R : Int))).low (p := ⟨W.heap.size, 1, none⟩) (by simp; omega) (.int .i64 (C : Int))).low (p := ⟨W.heap.size, 2, none⟩) (by simp; omega) (.slice A2 n c2')).low (p := ⟨W.heap.size, 3, none⟩) (by simp; omega) (.int .i64 (row : Int))).low (p := ⟨W.heap.size, 4, none⟩) (by simp; omega) (.int .i64 (col : Int))).mono (C := W.heap.size) (by omega)
  have hBf := (((((HB2.out.setCell (p := ⟨W.heap.size + 1, 2, none⟩) (by simp) (.slice A2 n c2')).setCell (p := ⟨W.heap.size, 0, none⟩) (Nat.le_refl _) (.int .i64 (R : Int))).setCell (p := ⟨W.heap.size, 1, none⟩) (Nat.le_refl _) (.int .i64 (C : Int))).setCell (p := ⟨W.heap.size, 2, none⟩) (Nat.le_refl _) (.slice A2 n c2')).setCell (p := ⟨W.heap.size, 3, none⟩) (Nat.le_refl _) (.int .i64 (row : Int))).setCell (p := ⟨W.heap.size, 4, none⟩) (Nat.le_refl _) (.int .i64 (col : Int))
  refine bodyPost_ret (results_cell_row rfl _ _ W.heap.size 35 #[.int .i64 (R : Int), .int .i64 (C : Int), .slice A2 n c2', .int .i64 (row : Int), .int .i64 (col : Int)] (0, 0) _ rfl hZf Tryd.underlying35 rfl (by kernel_rfl)) rfl ⟨_, rfl, ⟨A2, c2', ?_, hcm2, ?_⟩, hBf⟩
  · simp [frV, frM, HN.out]
  · simpa [HN.out, frM] using hHf
end Go.Proofs.YtmemdhmjhckmaaaDoor
namespace Go.Proofs.YtmemdhmjhckmaaaDoor
open Go.RowKit

theorem diff_no {f g : Fr} (h : diffOk f g = false) : diffF f g = -1 := by unfold diffF; rw [h]; rfl
theorem diff_yes {f g : Fr} (h : diffOk f g = true) : diffF f g = ((diffTo f.cs g.cs f.cs.length : Nat) : Int) := by unfold diffF; rw [if_pos h]
theorem diffTo_step {A B : List Cl} {i : Nat} {c d : Cl} (hc : A[i]? = some c) (hd : B[i]? = some d) : diffTo A B (i + 1) = diffTo A B i + if sameC c d = true then 0 else 1 := by
  rw [diffTo, hc, hd]
  congr 1
  unfold sameC
  by_cases e : c = d
  · simp [e]
  · simp [e]
end Go.Proofs.YtmemdhmjhckmaaaDoor
