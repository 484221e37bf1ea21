/- The document's terminal: control sequences. -/
import Derived.Test.YtmemdhmjhckmaaaDoorZ36
namespace Go.Proofs.YtmemdhmjhckmaaaDoor
open Go.RowKit
set_option maxRecDepth 100000

set_option maxHeartbeats 8000000 in
theorem rtseq_f72 {w0 W : World} {z g cap : Nat} (t : Tm) (h : TrB w0 W z g cap t) (hI : Inv t) (fin : Int) (pv : Value) (l : List Int) (hv : NumsV W pv l) (hl : l.length ≤ 100000) (h9 : ∀ x ∈ l, 0 ≤ x ∧ x ≤ 9999) (hf : fin = 72) :
    Calls Tryd.prog 35 #[.pointer (some ⟨z, 0, none⟩), pv, .int .u8 fin] W (Mr w0 W z g (seqM t l fin)) := by
  have HIV := hide hI
  have hIR := hI.hR
  have hIC := hI.hC
  have hIL := hI.hL
  have hrw := hI.hrow
  have hcl := hI.hcol
  obtain ⟨R, C, cs, row, col, p, s, wt, bl⟩ := t
  dsimp only at hIR hIC hIL hrw hcl
  obtain ⟨A, c, rfl⟩ := hv.form
  have HSQ := hide (show seqM ⟨R, C, cs, row, col, p, s, wt, bl⟩ l fin = ⟨R, C, cs, clipN (l.getD 0 0 - 1) R, clipN (l.getD 1 0 - 1) C, p, s, false, bl⟩ from by subst hf; rfl)
  subst hf
  have h90 := getD_bd h9 0
  have h91 := getD_bd h9 1
  have HNU := hide hv
  have HN0 := hide (fun V (hb : Below W.heap.size W V) => (show Calls Tryd.prog 64 #[.slice A l.length c, .int .i64 0] V fun e w' => e = .returned (.int .i64 (l.getD 0 0)) ∧ V = w' from rnum_any (.slice A l.length c) l 0 V (hv.below hb) hl (by omega)))
  have HN1 := hide (fun V (hb : Below W.heap.size W V) => (show Calls Tryd.prog 64 #[.slice A l.length c, .int .i64 1] V fun e w' => e = .returned (.int .i64 (l.getD 1 0)) ∧ V = w' from rnum_any (.slice A l.length c) l 1 V (hv.below hb) hl (by omega)))
  obtain ⟨nn, hnn⟩ : ∃ x, R * C = x := ⟨_, rfl⟩
  have hn2 : nn ≤ 20000 := by rw [← hnn]; exact Nat.le_trans (Nat.mul_le_mul hIR.2 hIC.2) (by decide)
  have hat := at_lt hI
  dsimp only at hat
  obtain ⟨rc, hrc⟩ : ∃ x, row * C = x := ⟨_, rfl⟩
  obtain ⟨at_, hat_⟩ : ∃ x, rc + col = x := ⟨_, rfl⟩
  have hrcC : rc + C ≤ nn := by
    rw [← hrc, ← hnn]
    have : (row + 1) * C ≤ R * C := Nat.mul_le_mul_right C hrw
    rw [Nat.add_mul, Nat.one_mul] at this; exact this
  rw [hrc, hat_, hnn] at hat
  rw [hnn] at hIL
  (try rw [hrc] at HSQ)
  (try rw [hat_] at HSQ)
  have hw1 : IntKind.i64.wrap ((row : Int) * (C : Int)) = (rc : Int) := by
    rw [show (row : Int) * (C : Int) = (rc : Int) by rw [← hrc]; push_cast; rfl]
    exact Go.wrap_small _ (by omega) (by omega)
  have hw2 : IntKind.i64.wrap ((rc : Int) + (col : Int)) = (at_ : Int) := (Go.wrap_small _ (by omega) (by omega)).trans (by omega)
  obtain ⟨n, hn⟩ : ∃ n, l.getD 0 0 = n := ⟨_, rfl⟩
  obtain ⟨n1, hn1⟩ : ∃ n, l.getD 1 0 = n := ⟨_, rfl⟩
  rw [hn] at h90 HN0
  (try rw [hn] at HSQ)
  rw [hn1] at h91 HN1
  (try rw [hn1] at HSQ)
  have HNK := hide (fun V (hk : K2 z g W V) => (show Calls Tryd.prog 64 #[.slice A l.length c, .int .i64 1] V fun e w' => e = .returned (.int .i64 n1) ∧ V = w' from by have h1 := rnum_any (.slice A l.length c) l 1 V (hv.k2R h hk) hl (by omega); rw [hn1] at h1; exact h1))
  obtain ⟨m, hm⟩ : ∃ m, max n 1 = m := ⟨_, rfl⟩
  have hmb := max_one h90
  rw [hm] at hmb
  (try rw [hm] at HSQ)
  have HHM := hide hm
  have HAT := hide hat_
  have HRC := hide hrc
  have HRCC := hide hrcC
  have HATN := hide hat
  obtain ⟨c0, c1, c2, c3, c4, c5, c6, c7, c8, c9, c10, c11⟩ := h.reads
  rw [hIL] at c2
  have bf := fun i => h.b.frozen i
  have HLN := hide hIL
  have H := hide h
  have HMB := hide hmb
  have H90 := hide h90
  have H91 := hide h91
  clear h hI hv hn hn1 hnn hrc hat_ hrcC hat hmb h91 hn2 hIL
  obtain ⟨n1a, n1b⟩ := H91.out
  obtain ⟨len, hlen⟩ : ∃ q, l.length = q := ⟨_, rfl⟩
  rw [hlen] at HNU HN0 HN1 HNK hl ⊢
  have HLEN := hide hlen
  clear hlen
  cases wt
  · go_enter Tryd.func35, Tryd.ntmps35
    go_wp2_with fail
    refine (HN0.out _ (Below.refl _ _)).mono ?_; rintro e w1 ⟨rfl, rfl⟩
    go_wp2_with fail
    (try rw [hm])
    go_region
    go_wp2_with fail
    obtain ⟨U, hU, HU, KU⟩ := named (R := fun V => TrB w0 V z g cap ⟨R, C, cs, row, col, p, s, false, bl⟩ ∧ K2 z g W V) ⟨(H.out.setZ ⟨R, C, cs, row, col, p, s, false, bl⟩ 10 (.bool false) rfl rfl).low (Below.refl _ _).drew, (K2.set _ _ _ _ _).trans K2.drew⟩
    rw [hU]
    have HU := hide HU
    have KU := hide KU
    clear hU H c0 c1 c2 c3 c4 c5 c6 c7 c8 c9 c10 c11 bf
    obtain ⟨c0, c1, -, c3, c4, -⟩ := HU.out.reads
    have bf := fun i => HU.out.b.frozen i
    have HCL := hide (fun (w : World) => rwithin_any (n - 1) (R : Int) w (by omega) (by omega))
    have HCM := hide (fun (w : World) => rwithin_any (n1 - 1) (C : Int) w (by omega) (by omega))
    obtain ⟨q, hq⟩ : ∃ q, clipN (n - 1) (R : Int) = q := ⟨_, rfl⟩
    obtain ⟨q1, hq1⟩ : ∃ q, clipN (n1 - 1) (C : Int) = q := ⟨_, rfl⟩
    rw [hq] at HCL HSQ
    rw [hq1] at HCM HSQ
    clear hq hq1
    obtain ⟨v0, hv0⟩ : ∃ v, n - 1 = v := ⟨_, rfl⟩
    obtain ⟨v1, hv1⟩ : ∃ v, n1 - 1 = v := ⟨_, rfl⟩
    have hwa : IntKind.i64.wrap (n - 1) = v0 := by simp only [IntKind.wrap_i64]; omega
    have hwb : IntKind.i64.wrap (n1 - 1) = v1 := by simp only [IntKind.wrap_i64]; omega
    rw [hv0] at HCL
    rw [hv1] at HCM
    clear hv0 hv1
    have HUD := hide (HU.out.low (Below.refl _ _).drew)
    have KUD := hide (KU.out.trans K2.drew)
    refine wp_region_held_drew (S := (fun V => V.cell? ⟨z, 0, none⟩ = some (.int .i64 (R : Int)) ∧ V.cell? ⟨z, 1, none⟩ = some (.int .i64 (C : Int)))) (by kernel_rfl) ?_ (fun hHeld => ?_)
    · exact ⟨c0, c1⟩
    refine wpAnyH_at (i := 0) (v := ?va0) (d := 157) rfl rfl (by kernel_rfl) (by kernel_rfl) (by kernel_rfl) (fun _ _ _ h => h) (Or.inl ⟨by rfl, fun w' hSw => ?hya0⟩) (by assumption) ?resta0
    case hya0 =>
      (try dsimp only at hSw)
      go_simp
      (try with_reducible rfl)
    (try simp only [Act.put, List.setIfInBounds_toArray, List.set_cons_zero, List.set_cons_succ])
    refine wpAnyH_at (i := 1) (v := ?va1) (d := 158) rfl rfl (by kernel_rfl) (by kernel_rfl) (by kernel_rfl) (fun _ _ _ h => h) (Or.inl ⟨by rfl, fun w' hSw => ?hya1⟩) (by assumption) ?resta1
    case hya1 =>
      (try dsimp only at hSw)
      go_simp
      (try with_reducible rfl)
    (try simp only [Act.put, List.setIfInBounds_toArray, List.set_cons_zero, List.set_cons_succ])
    refine wpAnyH_at (i := 2) (v := ?va2) (d := 159) rfl rfl (by kernel_rfl) (by kernel_rfl) (by kernel_rfl) (fun _ _ _ h => h) (Or.inl ⟨by rfl, fun w' hSw => ?hya2⟩) (by assumption) ?resta2
    case hya2 =>
      (try dsimp only at hSw)
      go_simp
      (try with_reducible rfl)
    (try simp only [Act.put, List.setIfInBounds_toArray, List.set_cons_zero, List.set_cons_succ])
    refine wpAnyH_at (i := 3) (v := ?va3) (d := 160) rfl rfl (by kernel_rfl) (by kernel_rfl) (by kernel_rfl) (fun _ _ _ h => h) (Or.inl ⟨by rfl, fun w' hSw => ?hya3⟩) (by assumption) ?resta3
    case hya3 =>
      (try dsimp only at hSw)
      go_simp
      (try with_reducible rfl)
    (try simp only [Act.put, List.setIfInBounds_toArray, List.set_cons_zero, List.set_cons_succ])
    refine wpAnyH_at (i := 4) (v := ?va4) (d := 161) rfl rfl (by kernel_rfl) (by kernel_rfl) (by kernel_rfl) (fun _ _ _ h => h) (Or.inl ⟨by rfl, fun w' hSw => ?hya4⟩) (by assumption) ?resta4
    case hya4 =>
      (try dsimp only at hSw)
      go_simp
      (try with_reducible rfl)
    (try simp only [Act.put, List.setIfInBounds_toArray, List.set_cons_zero, List.set_cons_succ])
    refine wpAnyH_at (i := 5) (v := ?va5) (d := 162) rfl rfl (by kernel_rfl) (by kernel_rfl) (by kernel_rfl) (fun _ _ _ h => h) (Or.inl ⟨by rfl, fun w' hSw => ?hya5⟩) (by assumption) ?resta5
    case hya5 =>
      (try dsimp only at hSw)
      go_simp
      (try with_reducible rfl)
    (try simp only [Act.put, List.setIfInBounds_toArray, List.set_cons_zero, List.set_cons_succ])
    refine wpAnyH_at (i := 6) (v := ?va6) (d := 163) rfl rfl (by kernel_rfl) (by kernel_rfl) (by kernel_rfl) (fun _ _ _ h => h) (Or.inl ⟨by rfl, fun w' hSw => ?hya6⟩) (by assumption) ?resta6
    case hya6 =>
      (try dsimp only at hSw)
      go_simp
      (try with_reducible rfl)
    (try simp only [Act.put, List.setIfInBounds_toArray, List.set_cons_zero, List.set_cons_succ])
    refine wpAnyH_at (i := 7) (v := ?va7) (d := 164) rfl rfl (by kernel_rfl) (by kernel_rfl) (by kernel_rfl) (fun _ _ _ h => h) (Or.inl ⟨by rfl, fun w' hSw => ?hya7⟩) (by assumption) ?resta7
    case hya7 =>
      (try dsimp only at hSw)
      go_simp
      (try with_reducible rfl)
    (try simp only [Act.put, List.setIfInBounds_toArray, List.set_cons_zero, List.set_cons_succ])
    refine wpAnyH_at (i := 8) (v := ?va8) (d := 165) rfl rfl (by kernel_rfl) (by kernel_rfl) (by kernel_rfl) (fun _ _ _ h => h) (Or.inl ⟨by rfl, fun w' hSw => ?hya8⟩) (by assumption) ?resta8
    case hya8 =>
      (try dsimp only at hSw)
      go_simp
      (try with_reducible rfl)
    (try simp only [Act.put, List.setIfInBounds_toArray, List.set_cons_zero, List.set_cons_succ])
    refine wpAnyH_at (i := 10) (v := ?va10) (d := 167) rfl rfl (by kernel_rfl) (by kernel_rfl) (by kernel_rfl) (fun _ _ _ h => h) (Or.inl ⟨by rfl, fun w' hSw => ?hya10⟩) (by assumption) ?resta10
    case hya10 =>
      (try dsimp only at hSw)
      go_simp
      (try with_reducible rfl)
    (try simp only [Act.put, List.setIfInBounds_toArray, List.set_cons_zero, List.set_cons_succ])
    refine wpAnyH_at (i := 13) (v := ?va13) (d := 170) rfl rfl (by kernel_rfl) (by kernel_rfl) (by kernel_rfl) (fun _ _ _ h => h) (Or.inl ⟨by rfl, fun w' hSw => ?hya13⟩) (by assumption) ?resta13
    case hya13 =>
      (try dsimp only at hSw)
      go_simp
      (try with_reducible rfl)
    (try simp only [Act.put, List.setIfInBounds_toArray, List.set_cons_zero, List.set_cons_succ])
    refine wpAnyH_at (i := 14) (v := ?va14) (d := 171) rfl rfl (by kernel_rfl) (by kernel_rfl) (by kernel_rfl) (fun _ _ _ h => h) (Or.inl ⟨by rfl, fun w' hSw => ?hya14⟩) (by assumption) ?resta14
    case hya14 =>
      (try dsimp only at hSw)
      go_simp
      (try with_reducible rfl)
    (try simp only [Act.put, List.setIfInBounds_toArray, List.set_cons_zero, List.set_cons_succ])
    refine wpAnyH_at (i := 15) (v := ?va15) (d := 172) rfl rfl (by kernel_rfl) (by kernel_rfl) (by kernel_rfl) (fun _ _ _ h => h) (Or.inl ⟨by rfl, fun w' hSw => ?hya15⟩) (by assumption) ?resta15
    case hya15 =>
      (try dsimp only at hSw)
      go_simp
      (try with_reducible rfl)
    (try simp only [Act.put, List.setIfInBounds_toArray, List.set_cons_zero, List.set_cons_succ])
    refine wpAnyH_at (i := 16) (v := ?va16) (d := 173) rfl rfl (by kernel_rfl) (by kernel_rfl) (by kernel_rfl) (fun _ _ _ h => h) (Or.inl ⟨by rfl, fun w' hSw => ?hya16⟩) (by assumption) ?resta16
    case hya16 =>
      (try dsimp only at hSw)
      go_simp
      (try with_reducible rfl)
    (try simp only [Act.put, List.setIfInBounds_toArray, List.set_cons_zero, List.set_cons_succ])
    refine wpAnyH_at (i := 17) (v := ?va17) (d := 174) rfl rfl (by kernel_rfl) (by kernel_rfl) (by kernel_rfl) (fun _ _ _ h => h) (Or.inl ⟨by rfl, fun w' hSw => ?hya17⟩) (by assumption) ?resta17
    case hya17 =>
      (try dsimp only at hSw)
      go_simp
      (try with_reducible rfl)
    (try simp only [Act.put, List.setIfInBounds_toArray, List.set_cons_zero, List.set_cons_succ])
    refine wpAnyH_ready (rs := [9]) (by kernel_rfl) (by simp) ?_
    refine AllReadyH.cons rfl (fun K' hK' => ?_) AllReadyH.nil
    go_simp
    refine (HCL.out _).mono ?_; rintro e w8 ⟨rfl, rfl⟩
    go_wp2_with fail
    refine hK'.out _ _ ?_ (fun hHeld => ?_)
    · exact ⟨c0, c1⟩
    clear hK' K'
    (try simp only [Act.put, List.getElem_toArray, List.getElem_cons_succ, List.getElem_cons_zero, List.setIfInBounds_toArray, List.set_cons_zero, List.set_cons_succ])
    refine wpAnyH_ready (rs := [11]) (by kernel_rfl) (by simp) ?_
    refine AllReadyH.cons rfl (fun K' hK' => ?_) AllReadyH.nil
    go_simp
    refine (HNK.out _ KUD.out).mono ?_; rintro e w8 ⟨rfl, rfl⟩
    go_wp2_with fail
    refine hK'.out _ _ ?_ (fun hHeld => ?_)
    · exact ⟨c0, c1⟩
    clear hK' K'
    (try simp only [Act.put, List.getElem_toArray, List.getElem_cons_succ, List.getElem_cons_zero, List.setIfInBounds_toArray, List.set_cons_zero, List.set_cons_succ])
    refine wpAnyH_at (i := 12) (v := ?va12) (d := 169) rfl rfl (by kernel_rfl) (by kernel_rfl) (by kernel_rfl) (fun _ _ _ h => h) (Or.inl ⟨by rfl, fun w' hSw => ?hya12⟩) (by assumption) ?resta12
    case hya12 =>
      (try dsimp only at hSw)
      go_simp
      (try with_reducible rfl)
    (try simp only [Act.put, List.setIfInBounds_toArray, List.set_cons_zero, List.set_cons_succ])
    refine wpAnyH_ready (rs := [18]) (by kernel_rfl) (by simp) ?_
    refine AllReadyH.cons rfl (fun K' hK' => ?_) AllReadyH.nil
    go_simp
    refine (HCM.out _).mono ?_; rintro e w8 ⟨rfl, rfl⟩
    go_wp2_with fail
    refine hK'.out _ _ ?_ (fun hHeld => ?_)
    · exact ⟨c0, c1⟩
    clear hK' K'
    (try simp only [Act.put, List.getElem_toArray, List.getElem_cons_succ, List.getElem_cons_zero, List.setIfInBounds_toArray, List.set_cons_zero, List.set_cons_succ])
    refine wpAnyH_at (i := 19) (v := ?va19) (d := 176) rfl rfl (by kernel_rfl) (by kernel_rfl) (by kernel_rfl) (fun _ _ _ h => h) (Or.inl ⟨by rfl, fun w' hSw => ?hya19⟩) (by assumption) ?resta19
    case hya19 =>
      (try dsimp only at hSw)
      go_simp
      (try with_reducible rfl)
    (try simp only [Act.put, List.setIfInBounds_toArray, List.set_cons_zero, List.set_cons_succ])
    refine wpAnyH_at (i := 20) (v := ?va20) (d := 177) rfl rfl (by kernel_rfl) (by kernel_rfl) (by kernel_rfl) (fun _ _ _ h => h) (Or.inl ⟨by rfl, fun w' hSw => ?hya20⟩) (by assumption) ?resta20
    case hya20 =>
      (try dsimp only at hSw)
      go_simp
      (try with_reducible rfl)
    (try simp only [Act.put, List.setIfInBounds_toArray, List.set_cons_zero, List.set_cons_succ])
    refine wpAnyH_at (i := 21) (v := ?va21) (d := 178) rfl rfl (by kernel_rfl) (by kernel_rfl) (by kernel_rfl) (fun _ _ _ h => h) (Or.inl ⟨by rfl, fun w' hSw => ?hya21⟩) (by assumption) ?resta21
    case hya21 =>
      (try dsimp only at hSw)
      go_simp
      (try with_reducible rfl)
    (try simp only [Act.put, List.setIfInBounds_toArray, List.set_cons_zero, List.set_cons_succ])
    have H4 := hide (HUD.out.setZ ⟨R, C, cs, q, col, p, s, false, bl⟩ 3 (.int .i64 (q : Int)) rfl rfl)
    obtain ⟨d0, d1, -⟩ := H4.out.reads
    refine wpAnyH_ready (rs := [22]) (by kernel_rfl) (by simp) ?_
    refine AllReadyH.cons rfl (fun K' hK' => ?_) AllReadyH.nil
    go_simp
    refine hK'.out _ _ ?_ (fun hHeld => ?_)
    · exact ⟨d0, d1⟩
    clear hK' K'
    (try simp only [Act.put, List.getElem_toArray, List.getElem_cons_succ, List.getElem_cons_zero, List.setIfInBounds_toArray, List.set_cons_zero, List.set_cons_succ])
    have bf4 := fun i => H4.out.b.frozen i
    refine wpAnyH_at (i := 23) (v := ?va23) (d := 179) rfl rfl (by kernel_rfl) (by kernel_rfl) (by kernel_rfl) (fun _ _ _ h => h) (Or.inl ⟨by rfl, fun w' hSw => ?hya23⟩) (by assumption) ?resta23
    case hya23 =>
      (try dsimp only at hSw)
      go_simp
      (try with_reducible rfl)
    (try simp only [Act.put, List.setIfInBounds_toArray, List.set_cons_zero, List.set_cons_succ])
    refine wpAnyH_at (i := 24) (v := ?va24) (d := 180) rfl rfl (by kernel_rfl) (by kernel_rfl) (by kernel_rfl) (fun _ _ _ h => h) (Or.inl ⟨by rfl, fun w' hSw => ?hya24⟩) (by assumption) ?resta24
    case hya24 =>
      (try dsimp only at hSw)
      go_simp
      (try with_reducible rfl)
    (try simp only [Act.put, List.setIfInBounds_toArray, List.set_cons_zero, List.set_cons_succ])
    refine wpAnyH_at (i := 25) (v := ?va25) (d := 181) rfl rfl (by kernel_rfl) (by kernel_rfl) (by kernel_rfl) (fun _ _ _ h => h) (Or.inl ⟨by rfl, fun w' hSw => ?hya25⟩) (by assumption) ?resta25
    case hya25 =>
      (try dsimp only at hSw)
      go_simp
      (try with_reducible rfl)
    (try simp only [Act.put, List.setIfInBounds_toArray, List.set_cons_zero, List.set_cons_succ])
    have H5 := hide (H4.out.setZ ⟨R, C, cs, q, q1, p, s, false, bl⟩ 4 (.int .i64 (q1 : Int)) rfl rfl)
    obtain ⟨f0, f1, -⟩ := H5.out.reads
    refine wpAnyH_ready (rs := [26]) (by kernel_rfl) (by simp) ?_
    refine AllReadyH.cons rfl (fun K' hK' => ?_) AllReadyH.nil
    go_simp
    refine hK'.out _ _ ?_ (fun hHeld => ?_)
    · exact ⟨f0, f1⟩
    clear hK' K'
    (try simp only [Act.put, List.getElem_toArray, List.getElem_cons_succ, List.getElem_cons_zero, List.setIfInBounds_toArray, List.set_cons_zero, List.set_cons_succ])
    refine wpAnyH_done (by kernel_rfl) ?_ _
    go_wp2
    go_end0
    rw [HSQ.out]
    exact Mr.mk H5.out ((KUD.out.trans (K2.set _ _ _ _ _)).trans (K2.set _ _ _ _ _)) (.inl rfl)
  · go_enter Tryd.func35, Tryd.ntmps35
    go_wp2_with fail
    refine (HN0.out _ (Below.refl _ _)).mono ?_; rintro e w1 ⟨rfl, rfl⟩
    go_wp2_with fail
    (try rw [hm])
    go_region
    go_wp2_with fail
    obtain ⟨U, hU, HU, KU⟩ := named (R := fun V => TrB w0 V z g cap ⟨R, C, cs, row, col, p, s, false, bl⟩ ∧ K2 z g W V) ⟨(H.out.setZ ⟨R, C, cs, row, col, p, s, false, bl⟩ 10 (.bool false) rfl rfl).low (Below.refl _ _).drew, (K2.set _ _ _ _ _).trans K2.drew⟩
    rw [hU]
    have HU := hide HU
    have KU := hide KU
    clear hU H c0 c1 c2 c3 c4 c5 c6 c7 c8 c9 c10 c11 bf
    obtain ⟨c0, c1, -, c3, c4, -⟩ := HU.out.reads
    have bf := fun i => HU.out.b.frozen i
    have HCL := hide (fun (w : World) => rwithin_any (n - 1) (R : Int) w (by omega) (by omega))
    have HCM := hide (fun (w : World) => rwithin_any (n1 - 1) (C : Int) w (by omega) (by omega))
    obtain ⟨q, hq⟩ : ∃ q, clipN (n - 1) (R : Int) = q := ⟨_, rfl⟩
    obtain ⟨q1, hq1⟩ : ∃ q, clipN (n1 - 1) (C : Int) = q := ⟨_, rfl⟩
    rw [hq] at HCL HSQ
    rw [hq1] at HCM HSQ
    clear hq hq1
    obtain ⟨v0, hv0⟩ : ∃ v, n - 1 = v := ⟨_, rfl⟩
    obtain ⟨v1, hv1⟩ : ∃ v, n1 - 1 = v := ⟨_, rfl⟩
    have hwa : IntKind.i64.wrap (n - 1) = v0 := by simp only [IntKind.wrap_i64]; omega
    have hwb : IntKind.i64.wrap (n1 - 1) = v1 := by simp only [IntKind.wrap_i64]; omega
    rw [hv0] at HCL
    rw [hv1] at HCM
    clear hv0 hv1
    have HUD := hide (HU.out.low (Below.refl _ _).drew)
    have KUD := hide (KU.out.trans K2.drew)
    refine wp_region_held_drew (S := (fun V => V.cell? ⟨z, 0, none⟩ = some (.int .i64 (R : Int)) ∧ V.cell? ⟨z, 1, none⟩ = some (.int .i64 (C : Int)))) (by kernel_rfl) ?_ (fun hHeld => ?_)
    · exact ⟨c0, c1⟩
    refine wpAnyH_at (i := 0) (v := ?vb0) (d := 157) rfl rfl (by kernel_rfl) (by kernel_rfl) (by kernel_rfl) (fun _ _ _ h => h) (Or.inl ⟨by rfl, fun w' hSw => ?hyb0⟩) (by assumption) ?restb0
    case hyb0 =>
      (try dsimp only at hSw)
      go_simp
      (try with_reducible rfl)
    (try simp only [Act.put, List.setIfInBounds_toArray, List.set_cons_zero, List.set_cons_succ])
    refine wpAnyH_at (i := 1) (v := ?vb1) (d := 158) rfl rfl (by kernel_rfl) (by kernel_rfl) (by kernel_rfl) (fun _ _ _ h => h) (Or.inl ⟨by rfl, fun w' hSw => ?hyb1⟩) (by assumption) ?restb1
    case hyb1 =>
      (try dsimp only at hSw)
      go_simp
      (try with_reducible rfl)
    (try simp only [Act.put, List.setIfInBounds_toArray, List.set_cons_zero, List.set_cons_succ])
    refine wpAnyH_at (i := 2) (v := ?vb2) (d := 159) rfl rfl (by kernel_rfl) (by kernel_rfl) (by kernel_rfl) (fun _ _ _ h => h) (Or.inl ⟨by rfl, fun w' hSw => ?hyb2⟩) (by assumption) ?restb2
    case hyb2 =>
      (try dsimp only at hSw)
      go_simp
      (try with_reducible rfl)
    (try simp only [Act.put, List.setIfInBounds_toArray, List.set_cons_zero, List.set_cons_succ])
    refine wpAnyH_at (i := 3) (v := ?vb3) (d := 160) rfl rfl (by kernel_rfl) (by kernel_rfl) (by kernel_rfl) (fun _ _ _ h => h) (Or.inl ⟨by rfl, fun w' hSw => ?hyb3⟩) (by assumption) ?restb3
    case hyb3 =>
      (try dsimp only at hSw)
      go_simp
      (try with_reducible rfl)
    (try simp only [Act.put, List.setIfInBounds_toArray, List.set_cons_zero, List.set_cons_succ])
    refine wpAnyH_at (i := 4) (v := ?vb4) (d := 161) rfl rfl (by kernel_rfl) (by kernel_rfl) (by kernel_rfl) (fun _ _ _ h => h) (Or.inl ⟨by rfl, fun w' hSw => ?hyb4⟩) (by assumption) ?restb4
    case hyb4 =>
      (try dsimp only at hSw)
      go_simp
      (try with_reducible rfl)
    (try simp only [Act.put, List.setIfInBounds_toArray, List.set_cons_zero, List.set_cons_succ])
    refine wpAnyH_at (i := 5) (v := ?vb5) (d := 162) rfl rfl (by kernel_rfl) (by kernel_rfl) (by kernel_rfl) (fun _ _ _ h => h) (Or.inl ⟨by rfl, fun w' hSw => ?hyb5⟩) (by assumption) ?restb5
    case hyb5 =>
      (try dsimp only at hSw)
      go_simp
      (try with_reducible rfl)
    (try simp only [Act.put, List.setIfInBounds_toArray, List.set_cons_zero, List.set_cons_succ])
    refine wpAnyH_at (i := 6) (v := ?vb6) (d := 163) rfl rfl (by kernel_rfl) (by kernel_rfl) (by kernel_rfl) (fun _ _ _ h => h) (Or.inl ⟨by rfl, fun w' hSw => ?hyb6⟩) (by assumption) ?restb6
    case hyb6 =>
      (try dsimp only at hSw)
      go_simp
      (try with_reducible rfl)
    (try simp only [Act.put, List.setIfInBounds_toArray, List.set_cons_zero, List.set_cons_succ])
    refine wpAnyH_at (i := 7) (v := ?vb7) (d := 164) rfl rfl (by kernel_rfl) (by kernel_rfl) (by kernel_rfl) (fun _ _ _ h => h) (Or.inl ⟨by rfl, fun w' hSw => ?hyb7⟩) (by assumption) ?restb7
    case hyb7 =>
      (try dsimp only at hSw)
      go_simp
      (try with_reducible rfl)
    (try simp only [Act.put, List.setIfInBounds_toArray, List.set_cons_zero, List.set_cons_succ])
    refine wpAnyH_at (i := 8) (v := ?vb8) (d := 165) rfl rfl (by kernel_rfl) (by kernel_rfl) (by kernel_rfl) (fun _ _ _ h => h) (Or.inl ⟨by rfl, fun w' hSw => ?hyb8⟩) (by assumption) ?restb8
    case hyb8 =>
      (try dsimp only at hSw)
      go_simp
      (try with_reducible rfl)
    (try simp only [Act.put, List.setIfInBounds_toArray, List.set_cons_zero, List.set_cons_succ])
    refine wpAnyH_at (i := 10) (v := ?vb10) (d := 167) rfl rfl (by kernel_rfl) (by kernel_rfl) (by kernel_rfl) (fun _ _ _ h => h) (Or.inl ⟨by rfl, fun w' hSw => ?hyb10⟩) (by assumption) ?restb10
    case hyb10 =>
      (try dsimp only at hSw)
      go_simp
      (try with_reducible rfl)
    (try simp only [Act.put, List.setIfInBounds_toArray, List.set_cons_zero, List.set_cons_succ])
    refine wpAnyH_at (i := 13) (v := ?vb13) (d := 170) rfl rfl (by kernel_rfl) (by kernel_rfl) (by kernel_rfl) (fun _ _ _ h => h) (Or.inl ⟨by rfl, fun w' hSw => ?hyb13⟩) (by assumption) ?restb13
    case hyb13 =>
      (try dsimp only at hSw)
      go_simp
      (try with_reducible rfl)
    (try simp only [Act.put, List.setIfInBounds_toArray, List.set_cons_zero, List.set_cons_succ])
    refine wpAnyH_at (i := 14) (v := ?vb14) (d := 171) rfl rfl (by kernel_rfl) (by kernel_rfl) (by kernel_rfl) (fun _ _ _ h => h) (Or.inl ⟨by rfl, fun w' hSw => ?hyb14⟩) (by assumption) ?restb14
    case hyb14 =>
      (try dsimp only at hSw)
      go_simp
      (try with_reducible rfl)
    (try simp only [Act.put, List.setIfInBounds_toArray, List.set_cons_zero, List.set_cons_succ])
    refine wpAnyH_at (i := 15) (v := ?vb15) (d := 172) rfl rfl (by kernel_rfl) (by kernel_rfl) (by kernel_rfl) (fun _ _ _ h => h) (Or.inl ⟨by rfl, fun w' hSw => ?hyb15⟩) (by assumption) ?restb15
    case hyb15 =>
      (try dsimp only at hSw)
      go_simp
      (try with_reducible rfl)
    (try simp only [Act.put, List.setIfInBounds_toArray, List.set_cons_zero, List.set_cons_succ])
    refine wpAnyH_at (i := 16) (v := ?vb16) (d := 173) rfl rfl (by kernel_rfl) (by kernel_rfl) (by kernel_rfl) (fun _ _ _ h => h) (Or.inl ⟨by rfl, fun w' hSw => ?hyb16⟩) (by assumption) ?restb16
    case hyb16 =>
      (try dsimp only at hSw)
      go_simp
      (try with_reducible rfl)
    (try simp only [Act.put, List.setIfInBounds_toArray, List.set_cons_zero, List.set_cons_succ])
    refine wpAnyH_at (i := 17) (v := ?vb17) (d := 174) rfl rfl (by kernel_rfl) (by kernel_rfl) (by kernel_rfl) (fun _ _ _ h => h) (Or.inl ⟨by rfl, fun w' hSw => ?hyb17⟩) (by assumption) ?restb17
    case hyb17 =>
      (try dsimp only at hSw)
      go_simp
      (try with_reducible rfl)
    (try simp only [Act.put, List.setIfInBounds_toArray, List.set_cons_zero, List.set_cons_succ])
    refine wpAnyH_ready (rs := [9]) (by kernel_rfl) (by simp) ?_
    refine AllReadyH.cons rfl (fun K' hK' => ?_) AllReadyH.nil
    go_simp
    refine (HCL.out _).mono ?_; rintro e w8 ⟨rfl, rfl⟩
    go_wp2_with fail
    refine hK'.out _ _ ?_ (fun hHeld => ?_)
    · exact ⟨c0, c1⟩
    clear hK' K'
    (try simp only [Act.put, List.getElem_toArray, List.getElem_cons_succ, List.getElem_cons_zero, List.setIfInBounds_toArray, List.set_cons_zero, List.set_cons_succ])
    refine wpAnyH_ready (rs := [11]) (by kernel_rfl) (by simp) ?_
    refine AllReadyH.cons rfl (fun K' hK' => ?_) AllReadyH.nil
    go_simp
    refine (HNK.out _ KUD.out).mono ?_; rintro e w8 ⟨rfl, rfl⟩
    go_wp2_with fail
    refine hK'.out _ _ ?_ (fun hHeld => ?_)
    · exact ⟨c0, c1⟩
    clear hK' K'
    (try simp only [Act.put, List.getElem_toArray, List.getElem_cons_succ, List.getElem_cons_zero, List.setIfInBounds_toArray, List.set_cons_zero, List.set_cons_succ])
    refine wpAnyH_at (i := 12) (v := ?vb12) (d := 169) rfl rfl (by kernel_rfl) (by kernel_rfl) (by kernel_rfl) (fun _ _ _ h => h) (Or.inl ⟨by rfl, fun w' hSw => ?hyb12⟩) (by assumption) ?restb12
    case hyb12 =>
      (try dsimp only at hSw)
      go_simp
      (try with_reducible rfl)
    (try simp only [Act.put, List.setIfInBounds_toArray, List.set_cons_zero, List.set_cons_succ])
    refine wpAnyH_ready (rs := [18]) (by kernel_rfl) (by simp) ?_
    refine AllReadyH.cons rfl (fun K' hK' => ?_) AllReadyH.nil
    go_simp
    refine (HCM.out _).mono ?_; rintro e w8 ⟨rfl, rfl⟩
    go_wp2_with fail
    refine hK'.out _ _ ?_ (fun hHeld => ?_)
    · exact ⟨c0, c1⟩
    clear hK' K'
    (try simp only [Act.put, List.getElem_toArray, List.getElem_cons_succ, List.getElem_cons_zero, List.setIfInBounds_toArray, List.set_cons_zero, List.set_cons_succ])
    refine wpAnyH_at (i := 19) (v := ?vb19) (d := 176) rfl rfl (by kernel_rfl) (by kernel_rfl) (by kernel_rfl) (fun _ _ _ h => h) (Or.inl ⟨by rfl, fun w' hSw => ?hyb19⟩) (by assumption) ?restb19
    case hyb19 =>
      (try dsimp only at hSw)
      go_simp
      (try with_reducible rfl)
    (try simp only [Act.put, List.setIfInBounds_toArray, List.set_cons_zero, List.set_cons_succ])
    refine wpAnyH_at (i := 20) (v := ?vb20) (d := 177) rfl rfl (by kernel_rfl) (by kernel_rfl) (by kernel_rfl) (fun _ _ _ h => h) (Or.inl ⟨by rfl, fun w' hSw => ?hyb20⟩) (by assumption) ?restb20
    case hyb20 =>
      (try dsimp only at hSw)
      go_simp
      (try with_reducible rfl)
    (try simp only [Act.put, List.setIfInBounds_toArray, List.set_cons_zero, List.set_cons_succ])
    refine wpAnyH_at (i := 21) (v := ?vb21) (d := 178) rfl rfl (by kernel_rfl) (by kernel_rfl) (by kernel_rfl) (fun _ _ _ h => h) (Or.inl ⟨by rfl, fun w' hSw => ?hyb21⟩) (by assumption) ?restb21
    case hyb21 =>
      (try dsimp only at hSw)
      go_simp
      (try with_reducible rfl)
    (try simp only [Act.put, List.setIfInBounds_toArray, List.set_cons_zero, List.set_cons_succ])
    have H4 := hide (HUD.out.setZ ⟨R, C, cs, q, col, p, s, false, bl⟩ 3 (.int .i64 (q : Int)) rfl rfl)
    obtain ⟨d0, d1, -⟩ := H4.out.reads
    refine wpAnyH_ready (rs := [22]) (by kernel_rfl) (by simp) ?_
    refine AllReadyH.cons rfl (fun K' hK' => ?_) AllReadyH.nil
    go_simp
    refine hK'.out _ _ ?_ (fun hHeld => ?_)
    · exact ⟨d0, d1⟩
    clear hK' K'
    (try simp only [Act.put, List.getElem_toArray, List.getElem_cons_succ, List.getElem_cons_zero, List.setIfInBounds_toArray, List.set_cons_zero, List.set_cons_succ])
    have bf4 := fun i => H4.out.b.frozen i
    refine wpAnyH_at (i := 23) (v := ?vb23) (d := 179) rfl rfl (by kernel_rfl) (by kernel_rfl) (by kernel_rfl) (fun _ _ _ h => h) (Or.inl ⟨by rfl, fun w' hSw => ?hyb23⟩) (by assumption) ?restb23
    case hyb23 =>
      (try dsimp only at hSw)
      go_simp
      (try with_reducible rfl)
    (try simp only [Act.put, List.setIfInBounds_toArray, List.set_cons_zero, List.set_cons_succ])
    refine wpAnyH_at (i := 24) (v := ?vb24) (d := 180) rfl rfl (by kernel_rfl) (by kernel_rfl) (by kernel_rfl) (fun _ _ _ h => h) (Or.inl ⟨by rfl, fun w' hSw => ?hyb24⟩) (by assumption) ?restb24
    case hyb24 =>
      (try dsimp only at hSw)
      go_simp
      (try with_reducible rfl)
    (try simp only [Act.put, List.setIfInBounds_toArray, List.set_cons_zero, List.set_cons_succ])
    refine wpAnyH_at (i := 25) (v := ?vb25) (d := 181) rfl rfl (by kernel_rfl) (by kernel_rfl) (by kernel_rfl) (fun _ _ _ h => h) (Or.inl ⟨by rfl, fun w' hSw => ?hyb25⟩) (by assumption) ?restb25
    case hyb25 =>
      (try dsimp only at hSw)
      go_simp
      (try with_reducible rfl)
    (try simp only [Act.put, List.setIfInBounds_toArray, List.set_cons_zero, List.set_cons_succ])
    have H5 := hide (H4.out.setZ ⟨R, C, cs, q, q1, p, s, false, bl⟩ 4 (.int .i64 (q1 : Int)) rfl rfl)
    obtain ⟨f0, f1, -⟩ := H5.out.reads
    refine wpAnyH_ready (rs := [26]) (by kernel_rfl) (by simp) ?_
    refine AllReadyH.cons rfl (fun K' hK' => ?_) AllReadyH.nil
    go_simp
    refine hK'.out _ _ ?_ (fun hHeld => ?_)
    · exact ⟨f0, f1⟩
    clear hK' K'
    (try simp only [Act.put, List.getElem_toArray, List.getElem_cons_succ, List.getElem_cons_zero, List.setIfInBounds_toArray, List.set_cons_zero, List.set_cons_succ])
    refine wpAnyH_done (by kernel_rfl) ?_ _
    go_wp2
    go_end0
    rw [HSQ.out]
    exact Mr.mk H5.out ((KUD.out.trans (K2.set _ _ _ _ _)).trans (K2.set _ _ _ _ _)) (.inl rfl)
end Go.Proofs.YtmemdhmjhckmaaaDoor
