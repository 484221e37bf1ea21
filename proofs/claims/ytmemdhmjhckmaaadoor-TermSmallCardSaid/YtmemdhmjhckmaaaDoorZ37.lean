/- The document's terminal: control sequences. -/
import Derived.Test.YtmemdhmjhckmaaaDoorZ36
namespace Go.Proofs.YtmemdhmjhckmaaaDoor
open Go.RowKit
set_option maxRecDepth 100000

set_option maxHeartbeats 8000000 in
theorem rtseq_f66 {w0 W : World} {z g cap : Nat} (t : Tm) (h : TrB w0 W z g cap t) (hI : Inv t) (fin : Int) (pv : Value) (l : List Int) (hv : NumsV W pv l) (hl : l.length ≤ 100000) (h9 : ∀ x ∈ l, 0 ≤ x ∧ x ≤ 9999) (hf : fin = 66) :
    Calls Tryd.prog 35 #[.pointer (some ⟨z, 0, none⟩), pv, .int .u8 fin] W (Mr w0 W z g (seqM t l fin)) := by
  have HIV := hide hI
  have hIR := hI.hR
  have hIC := hI.hC
  have hIL := hI.hL
  have hrw := hI.hrow
  have hcl := hI.hcol
  obtain ⟨R, C, cs, row, col, p, s, wt, bl⟩ := t
  dsimp only at hIR hIC hIL hrw hcl
  obtain ⟨A, c, rfl⟩ := hv.form
  have HSQ := hide (show seqM ⟨R, C, cs, row, col, p, s, wt, bl⟩ l fin = ⟨R, C, cs, clipN ((row : Int) + max (l.getD 0 0) 1) R, col, p, s, false, bl⟩ from by subst hf; rfl)
  subst hf
  have h90 := getD_bd h9 0
  have h91 := getD_bd h9 1
  have HNU := hide hv
  have HN0 := hide (fun V (hb : Below W.heap.size W V) => (show Calls Tryd.prog 64 #[.slice A l.length c, .int .i64 0] V fun e w' => e = .returned (.int .i64 (l.getD 0 0)) ∧ V = w' from rnum_any (.slice A l.length c) l 0 V (hv.below hb) hl (by omega)))
  have HN1 := hide (fun V (hb : Below W.heap.size W V) => (show Calls Tryd.prog 64 #[.slice A l.length c, .int .i64 1] V fun e w' => e = .returned (.int .i64 (l.getD 1 0)) ∧ V = w' from rnum_any (.slice A l.length c) l 1 V (hv.below hb) hl (by omega)))
  obtain ⟨nn, hnn⟩ : ∃ x, R * C = x := ⟨_, rfl⟩
  have hn2 : nn ≤ 20000 := by rw [← hnn]; exact Nat.le_trans (Nat.mul_le_mul hIR.2 hIC.2) (by decide)
  have hat := at_lt hI
  dsimp only at hat
  obtain ⟨rc, hrc⟩ : ∃ x, row * C = x := ⟨_, rfl⟩
  obtain ⟨at_, hat_⟩ : ∃ x, rc + col = x := ⟨_, rfl⟩
  have hrcC : rc + C ≤ nn := by
    rw [← hrc, ← hnn]
    have : (row + 1) * C ≤ R * C := Nat.mul_le_mul_right C hrw
    rw [Nat.add_mul, Nat.one_mul] at this; exact this
  rw [hrc, hat_, hnn] at hat
  rw [hnn] at hIL
  (try rw [hrc] at HSQ)
  (try rw [hat_] at HSQ)
  have hw1 : IntKind.i64.wrap ((row : Int) * (C : Int)) = (rc : Int) := by
    rw [show (row : Int) * (C : Int) = (rc : Int) by rw [← hrc]; push_cast; rfl]
    exact Go.wrap_small _ (by omega) (by omega)
  have hw2 : IntKind.i64.wrap ((rc : Int) + (col : Int)) = (at_ : Int) := (Go.wrap_small _ (by omega) (by omega)).trans (by omega)
  obtain ⟨n, hn⟩ : ∃ n, l.getD 0 0 = n := ⟨_, rfl⟩
  obtain ⟨n1, hn1⟩ : ∃ n, l.getD 1 0 = n := ⟨_, rfl⟩
  rw [hn] at h90 HN0
  (try rw [hn] at HSQ)
  rw [hn1] at h91 HN1
  (try rw [hn1] at HSQ)
  obtain ⟨m, hm⟩ : ∃ m, max n 1 = m := ⟨_, rfl⟩
  have hmb := max_one h90
  rw [hm] at hmb
  (try rw [hm] at HSQ)
  have HHM := hide hm
  have HAT := hide hat_
  have HRC := hide hrc
  have HRCC := hide hrcC
  have HATN := hide hat
  obtain ⟨c0, c1, c2, c3, c4, c5, c6, c7, c8, c9, c10, c11⟩ := h.reads
  rw [hIL] at c2
  have bf := fun i => h.b.frozen i
  have HLN := hide hIL
  have H := hide h
  have HMB := hide hmb
  have H90 := hide h90
  have H91 := hide h91
  clear h hI hv hn hn1 hnn hrc hat_ hrcC hat hmb h91 hn2 hIL
  obtain ⟨len, hlen⟩ : ∃ q, l.length = q := ⟨_, rfl⟩
  rw [hlen] at HNU HN0 HN1 hl ⊢
  have HLEN := hide hlen
  clear hlen
  cases wt
  · go_enter Tryd.func35, Tryd.ntmps35
    go_wp2_with fail
    refine (HN0.out _ (Below.refl _ _)).mono ?_; rintro e w1 ⟨rfl, rfl⟩
    go_wp2_with fail
    (try rw [hm])
    go_region
    go_wp2_with fail
    obtain ⟨U, hU, HU, KU⟩ := named (R := fun V => TrB w0 V z g cap ⟨R, C, cs, row, col, p, s, false, bl⟩ ∧ K2 z g W V) ⟨(H.out.setZ ⟨R, C, cs, row, col, p, s, false, bl⟩ 10 (.bool false) rfl rfl).low (Below.refl _ _).drew, (K2.set _ _ _ _ _).trans K2.drew⟩
    rw [hU]
    have HU := hide HU
    have KU := hide KU
    clear hU H c0 c1 c2 c3 c4 c5 c6 c7 c8 c9 c10 c11 bf
    obtain ⟨c0, c1, -, c3, c4, -⟩ := HU.out.reads
    have bf := fun i => HU.out.b.frozen i
    obtain ⟨m1, m2⟩ := HMB.out
    have HCL := hide (fun (w : World) => rwithin_any ((row : Int) + m) (R : Int) w (by omega) (by omega))
    obtain ⟨q, hq⟩ : ∃ q, clipN ((row : Int) + m) (R : Int) = q := ⟨_, rfl⟩
    rw [hq] at HCL HSQ
    clear hq
    obtain ⟨vv, hvv⟩ : ∃ v, ((row : Int) + m) = v := ⟨_, rfl⟩
    have hwr : IntKind.i64.wrap ((row : Int) + m) = vv := by simp only [IntKind.wrap_i64]; omega
    rw [hvv] at HCL
    clear hvv
    refine wp_region_held_drew (S := (fun V => V.cell? ⟨z, 0, none⟩ = some (.int .i64 (R : Int)))) (by kernel_rfl) ?_ (fun hHeld => ?_)
    · exact c0
    refine wpAnyH_at (i := 0) (v := ?va0) (d := 100) rfl rfl (by kernel_rfl) (by kernel_rfl) (by kernel_rfl) (fun _ _ _ h => h) (Or.inl ⟨by rfl, fun w' hSw => ?hya0⟩) (by assumption) ?resta0
    case hya0 =>
      (try dsimp only at hSw)
      go_simp
      (try with_reducible rfl)
    (try simp only [Act.put, List.setIfInBounds_toArray, List.set_cons_zero, List.set_cons_succ])
    refine wpAnyH_at (i := 1) (v := ?va1) (d := 101) rfl rfl (by kernel_rfl) (by kernel_rfl) (by kernel_rfl) (fun _ _ _ h => h) (Or.inl ⟨by rfl, fun w' hSw => ?hya1⟩) (by assumption) ?resta1
    case hya1 =>
      (try dsimp only at hSw)
      go_simp
      (try with_reducible rfl)
    (try simp only [Act.put, List.setIfInBounds_toArray, List.set_cons_zero, List.set_cons_succ])
    refine wpAnyH_at (i := 2) (v := ?va2) (d := 102) rfl rfl (by kernel_rfl) (by kernel_rfl) (by kernel_rfl) (fun _ _ _ h => h) (Or.inl ⟨by rfl, fun w' hSw => ?hya2⟩) (by assumption) ?resta2
    case hya2 =>
      (try dsimp only at hSw)
      go_simp
      (try with_reducible rfl)
    (try simp only [Act.put, List.setIfInBounds_toArray, List.set_cons_zero, List.set_cons_succ])
    refine wpAnyH_at (i := 3) (v := ?va3) (d := 103) rfl rfl (by kernel_rfl) (by kernel_rfl) (by kernel_rfl) (fun _ _ _ h => h) (Or.inl ⟨by rfl, fun w' hSw => ?hya3⟩) (by assumption) ?resta3
    case hya3 =>
      (try dsimp only at hSw)
      go_simp
      (try with_reducible rfl)
    (try simp only [Act.put, List.setIfInBounds_toArray, List.set_cons_zero, List.set_cons_succ])
    refine wpAnyH_at (i := 4) (v := ?va4) (d := 104) rfl rfl (by kernel_rfl) (by kernel_rfl) (by kernel_rfl) (fun _ _ _ h => h) (Or.inl ⟨by rfl, fun w' hSw => ?hya4⟩) (by assumption) ?resta4
    case hya4 =>
      (try dsimp only at hSw)
      go_simp
      (try with_reducible rfl)
    (try simp only [Act.put, List.setIfInBounds_toArray, List.set_cons_zero, List.set_cons_succ])
    refine wpAnyH_at (i := 6) (v := ?va6) (d := 106) rfl rfl (by kernel_rfl) (by kernel_rfl) (by kernel_rfl) (fun _ _ _ h => h) (Or.inl ⟨by rfl, fun w' hSw => ?hya6⟩) (by assumption) ?resta6
    case hya6 =>
      (try dsimp only at hSw)
      go_simp
      (try with_reducible rfl)
    (try simp only [Act.put, List.setIfInBounds_toArray, List.set_cons_zero, List.set_cons_succ])
    refine wpAnyH_at (i := 8) (v := ?va8) (d := 108) rfl rfl (by kernel_rfl) (by kernel_rfl) (by kernel_rfl) (fun _ _ _ h => h) (Or.inl ⟨by rfl, fun w' hSw => ?hya8⟩) (by assumption) ?resta8
    case hya8 =>
      (try dsimp only at hSw)
      go_simp
      (try with_reducible rfl)
    (try simp only [Act.put, List.setIfInBounds_toArray, List.set_cons_zero, List.set_cons_succ])
    refine wpAnyH_at (i := 9) (v := ?va9) (d := 109) rfl rfl (by kernel_rfl) (by kernel_rfl) (by kernel_rfl) (fun _ _ _ h => h) (Or.inl ⟨by rfl, fun w' hSw => ?hya9⟩) (by assumption) ?resta9
    case hya9 =>
      (try dsimp only at hSw)
      go_simp
      (try with_reducible rfl)
    (try simp only [Act.put, List.setIfInBounds_toArray, List.set_cons_zero, List.set_cons_succ])
    refine wpAnyH_at (i := 10) (v := ?va10) (d := 110) rfl rfl (by kernel_rfl) (by kernel_rfl) (by kernel_rfl) (fun _ _ _ h => h) (Or.inl ⟨by rfl, fun w' hSw => ?hya10⟩) (by assumption) ?resta10
    case hya10 =>
      (try dsimp only at hSw)
      go_simp
      (try with_reducible rfl)
    (try simp only [Act.put, List.setIfInBounds_toArray, List.set_cons_zero, List.set_cons_succ])
    refine wpAnyH_at (i := 11) (v := ?va11) (d := 111) rfl rfl (by kernel_rfl) (by kernel_rfl) (by kernel_rfl) (fun _ _ _ h => h) (Or.inl ⟨by rfl, fun w' hSw => ?hya11⟩) (by assumption) ?resta11
    case hya11 =>
      (try dsimp only at hSw)
      go_simp
      (try with_reducible rfl)
    (try simp only [Act.put, List.setIfInBounds_toArray, List.set_cons_zero, List.set_cons_succ])
    refine wpAnyH_at (i := 12) (v := ?va12) (d := 112) rfl rfl (by kernel_rfl) (by kernel_rfl) (by kernel_rfl) (fun _ _ _ h => h) (Or.inl ⟨by rfl, fun w' hSw => ?hya12⟩) (by assumption) ?resta12
    case hya12 =>
      (try dsimp only at hSw)
      go_simp
      (try with_reducible rfl)
    (try simp only [Act.put, List.setIfInBounds_toArray, List.set_cons_zero, List.set_cons_succ])
    refine wpAnyH_ready (rs := [5]) (by kernel_rfl) (by simp) ?_
    refine AllReadyH.cons rfl (fun K' hK' => ?_) AllReadyH.nil
    go_simp
    refine hK'.out _ _ ?_ (fun hHeld => ?_)
    · exact c0
    clear hK' K'
    (try simp only [Act.put, List.getElem_toArray, List.getElem_cons_succ, List.getElem_cons_zero, List.setIfInBounds_toArray, List.set_cons_zero, List.set_cons_succ])
    refine wpAnyH_at (i := 7) (v := ?va7) (d := 107) rfl rfl (by kernel_rfl) (by kernel_rfl) (by kernel_rfl) (fun _ _ _ h => h) (Or.inl ⟨by rfl, fun w' hSw => ?hya7⟩) (by assumption) ?resta7
    case hya7 =>
      (try dsimp only at hSw)
      go_simp
      (try with_reducible rfl)
    (try simp only [Act.put, List.setIfInBounds_toArray, List.set_cons_zero, List.set_cons_succ])
    refine wpAnyH_ready (rs := [13]) (by kernel_rfl) (by simp) ?_
    refine AllReadyH.cons rfl (fun K' hK' => ?_) AllReadyH.nil
    go_simp
    refine (HCL.out _).mono ?_; rintro e w9 ⟨rfl, rfl⟩
    go_wp2_with fail
    refine hK'.out _ _ ?_ (fun hHeld => ?_)
    · exact c0
    clear hK' K'
    (try simp only [Act.put, List.getElem_toArray, List.getElem_cons_succ, List.getElem_cons_zero, List.setIfInBounds_toArray, List.set_cons_zero, List.set_cons_succ])
    refine wpAnyH_at (i := 14) (v := ?va14) (d := 114) rfl rfl (by kernel_rfl) (by kernel_rfl) (by kernel_rfl) (fun _ _ _ h => h) (Or.inl ⟨by rfl, fun w' hSw => ?hya14⟩) (by assumption) ?resta14
    case hya14 =>
      (try dsimp only at hSw)
      go_simp
      (try with_reducible rfl)
    (try simp only [Act.put, List.setIfInBounds_toArray, List.set_cons_zero, List.set_cons_succ])
    refine wpAnyH_at (i := 15) (v := ?va15) (d := 115) rfl rfl (by kernel_rfl) (by kernel_rfl) (by kernel_rfl) (fun _ _ _ h => h) (Or.inl ⟨by rfl, fun w' hSw => ?hya15⟩) (by assumption) ?resta15
    case hya15 =>
      (try dsimp only at hSw)
      go_simp
      (try with_reducible rfl)
    (try simp only [Act.put, List.setIfInBounds_toArray, List.set_cons_zero, List.set_cons_succ])
    refine wpAnyH_at (i := 16) (v := ?va16) (d := 116) rfl rfl (by kernel_rfl) (by kernel_rfl) (by kernel_rfl) (fun _ _ _ h => h) (Or.inl ⟨by rfl, fun w' hSw => ?hya16⟩) (by assumption) ?resta16
    case hya16 =>
      (try dsimp only at hSw)
      go_simp
      (try with_reducible rfl)
    (try simp only [Act.put, List.setIfInBounds_toArray, List.set_cons_zero, List.set_cons_succ])
    have H5 := hide ((HU.out.low (Below.refl _ _).drew).setZ ⟨R, C, cs, q, col, p, s, false, bl⟩ 3 (.int .i64 (q : Int)) rfl rfl)
    obtain ⟨e0, e1, -⟩ := H5.out.reads
    refine wpAnyH_ready (rs := [17]) (by kernel_rfl) (by simp) ?_
    refine AllReadyH.cons rfl (fun K' hK' => ?_) AllReadyH.nil
    go_simp
    refine hK'.out _ _ ?_ (fun hHeld => ?_)
    · exact e0
    clear hK' K'
    (try simp only [Act.put, List.getElem_toArray, List.getElem_cons_succ, List.getElem_cons_zero, List.setIfInBounds_toArray, List.set_cons_zero, List.set_cons_succ])
    refine wpAnyH_done (by kernel_rfl) ?_ _
    go_wp2
    go_end0
    rw [HSQ.out]
    exact Mr.mk H5.out ((KU.out.trans K2.drew).trans (K2.set _ _ _ _ _)) (.inl rfl)
  · go_enter Tryd.func35, Tryd.ntmps35
    go_wp2_with fail
    refine (HN0.out _ (Below.refl _ _)).mono ?_; rintro e w1 ⟨rfl, rfl⟩
    go_wp2_with fail
    (try rw [hm])
    go_region
    go_wp2_with fail
    obtain ⟨U, hU, HU, KU⟩ := named (R := fun V => TrB w0 V z g cap ⟨R, C, cs, row, col, p, s, false, bl⟩ ∧ K2 z g W V) ⟨(H.out.setZ ⟨R, C, cs, row, col, p, s, false, bl⟩ 10 (.bool false) rfl rfl).low (Below.refl _ _).drew, (K2.set _ _ _ _ _).trans K2.drew⟩
    rw [hU]
    have HU := hide HU
    have KU := hide KU
    clear hU H c0 c1 c2 c3 c4 c5 c6 c7 c8 c9 c10 c11 bf
    obtain ⟨c0, c1, -, c3, c4, -⟩ := HU.out.reads
    have bf := fun i => HU.out.b.frozen i
    obtain ⟨m1, m2⟩ := HMB.out
    have HCL := hide (fun (w : World) => rwithin_any ((row : Int) + m) (R : Int) w (by omega) (by omega))
    obtain ⟨q, hq⟩ : ∃ q, clipN ((row : Int) + m) (R : Int) = q := ⟨_, rfl⟩
    rw [hq] at HCL HSQ
    clear hq
    obtain ⟨vv, hvv⟩ : ∃ v, ((row : Int) + m) = v := ⟨_, rfl⟩
    have hwr : IntKind.i64.wrap ((row : Int) + m) = vv := by simp only [IntKind.wrap_i64]; omega
    rw [hvv] at HCL
    clear hvv
    refine wp_region_held_drew (S := (fun V => V.cell? ⟨z, 0, none⟩ = some (.int .i64 (R : Int)))) (by kernel_rfl) ?_ (fun hHeld => ?_)
    · exact c0
    refine wpAnyH_at (i := 0) (v := ?vb0) (d := 100) rfl rfl (by kernel_rfl) (by kernel_rfl) (by kernel_rfl) (fun _ _ _ h => h) (Or.inl ⟨by rfl, fun w' hSw => ?hyb0⟩) (by assumption) ?restb0
    case hyb0 =>
      (try dsimp only at hSw)
      go_simp
      (try with_reducible rfl)
    (try simp only [Act.put, List.setIfInBounds_toArray, List.set_cons_zero, List.set_cons_succ])
    refine wpAnyH_at (i := 1) (v := ?vb1) (d := 101) rfl rfl (by kernel_rfl) (by kernel_rfl) (by kernel_rfl) (fun _ _ _ h => h) (Or.inl ⟨by rfl, fun w' hSw => ?hyb1⟩) (by assumption) ?restb1
    case hyb1 =>
      (try dsimp only at hSw)
      go_simp
      (try with_reducible rfl)
    (try simp only [Act.put, List.setIfInBounds_toArray, List.set_cons_zero, List.set_cons_succ])
    refine wpAnyH_at (i := 2) (v := ?vb2) (d := 102) rfl rfl (by kernel_rfl) (by kernel_rfl) (by kernel_rfl) (fun _ _ _ h => h) (Or.inl ⟨by rfl, fun w' hSw => ?hyb2⟩) (by assumption) ?restb2
    case hyb2 =>
      (try dsimp only at hSw)
      go_simp
      (try with_reducible rfl)
    (try simp only [Act.put, List.setIfInBounds_toArray, List.set_cons_zero, List.set_cons_succ])
    refine wpAnyH_at (i := 3) (v := ?vb3) (d := 103) rfl rfl (by kernel_rfl) (by kernel_rfl) (by kernel_rfl) (fun _ _ _ h => h) (Or.inl ⟨by rfl, fun w' hSw => ?hyb3⟩) (by assumption) ?restb3
    case hyb3 =>
      (try dsimp only at hSw)
      go_simp
      (try with_reducible rfl)
    (try simp only [Act.put, List.setIfInBounds_toArray, List.set_cons_zero, List.set_cons_succ])
    refine wpAnyH_at (i := 4) (v := ?vb4) (d := 104) rfl rfl (by kernel_rfl) (by kernel_rfl) (by kernel_rfl) (fun _ _ _ h => h) (Or.inl ⟨by rfl, fun w' hSw => ?hyb4⟩) (by assumption) ?restb4
    case hyb4 =>
      (try dsimp only at hSw)
      go_simp
      (try with_reducible rfl)
    (try simp only [Act.put, List.setIfInBounds_toArray, List.set_cons_zero, List.set_cons_succ])
    refine wpAnyH_at (i := 6) (v := ?vb6) (d := 106) rfl rfl (by kernel_rfl) (by kernel_rfl) (by kernel_rfl) (fun _ _ _ h => h) (Or.inl ⟨by rfl, fun w' hSw => ?hyb6⟩) (by assumption) ?restb6
    case hyb6 =>
      (try dsimp only at hSw)
      go_simp
      (try with_reducible rfl)
    (try simp only [Act.put, List.setIfInBounds_toArray, List.set_cons_zero, List.set_cons_succ])
    refine wpAnyH_at (i := 8) (v := ?vb8) (d := 108) rfl rfl (by kernel_rfl) (by kernel_rfl) (by kernel_rfl) (fun _ _ _ h => h) (Or.inl ⟨by rfl, fun w' hSw => ?hyb8⟩) (by assumption) ?restb8
    case hyb8 =>
      (try dsimp only at hSw)
      go_simp
      (try with_reducible rfl)
    (try simp only [Act.put, List.setIfInBounds_toArray, List.set_cons_zero, List.set_cons_succ])
    refine wpAnyH_at (i := 9) (v := ?vb9) (d := 109) rfl rfl (by kernel_rfl) (by kernel_rfl) (by kernel_rfl) (fun _ _ _ h => h) (Or.inl ⟨by rfl, fun w' hSw => ?hyb9⟩) (by assumption) ?restb9
    case hyb9 =>
      (try dsimp only at hSw)
      go_simp
      (try with_reducible rfl)
    (try simp only [Act.put, List.setIfInBounds_toArray, List.set_cons_zero, List.set_cons_succ])
    refine wpAnyH_at (i := 10) (v := ?vb10) (d := 110) rfl rfl (by kernel_rfl) (by kernel_rfl) (by kernel_rfl) (fun _ _ _ h => h) (Or.inl ⟨by rfl, fun w' hSw => ?hyb10⟩) (by assumption) ?restb10
    case hyb10 =>
      (try dsimp only at hSw)
      go_simp
      (try with_reducible rfl)
    (try simp only [Act.put, List.setIfInBounds_toArray, List.set_cons_zero, List.set_cons_succ])
    refine wpAnyH_at (i := 11) (v := ?vb11) (d := 111) rfl rfl (by kernel_rfl) (by kernel_rfl) (by kernel_rfl) (fun _ _ _ h => h) (Or.inl ⟨by rfl, fun w' hSw => ?hyb11⟩) (by assumption) ?restb11
    case hyb11 =>
      (try dsimp only at hSw)
      go_simp
      (try with_reducible rfl)
    (try simp only [Act.put, List.setIfInBounds_toArray, List.set_cons_zero, List.set_cons_succ])
    refine wpAnyH_at (i := 12) (v := ?vb12) (d := 112) rfl rfl (by kernel_rfl) (by kernel_rfl) (by kernel_rfl) (fun _ _ _ h => h) (Or.inl ⟨by rfl, fun w' hSw => ?hyb12⟩) (by assumption) ?restb12
    case hyb12 =>
      (try dsimp only at hSw)
      go_simp
      (try with_reducible rfl)
    (try simp only [Act.put, List.setIfInBounds_toArray, List.set_cons_zero, List.set_cons_succ])
    refine wpAnyH_ready (rs := [5]) (by kernel_rfl) (by simp) ?_
    refine AllReadyH.cons rfl (fun K' hK' => ?_) AllReadyH.nil
    go_simp
    refine hK'.out _ _ ?_ (fun hHeld => ?_)
    · exact c0
    clear hK' K'
    (try simp only [Act.put, List.getElem_toArray, List.getElem_cons_succ, List.getElem_cons_zero, List.setIfInBounds_toArray, List.set_cons_zero, List.set_cons_succ])
    refine wpAnyH_at (i := 7) (v := ?vb7) (d := 107) rfl rfl (by kernel_rfl) (by kernel_rfl) (by kernel_rfl) (fun _ _ _ h => h) (Or.inl ⟨by rfl, fun w' hSw => ?hyb7⟩) (by assumption) ?restb7
    case hyb7 =>
      (try dsimp only at hSw)
      go_simp
      (try with_reducible rfl)
    (try simp only [Act.put, List.setIfInBounds_toArray, List.set_cons_zero, List.set_cons_succ])
    refine wpAnyH_ready (rs := [13]) (by kernel_rfl) (by simp) ?_
    refine AllReadyH.cons rfl (fun K' hK' => ?_) AllReadyH.nil
    go_simp
    refine (HCL.out _).mono ?_; rintro e w9 ⟨rfl, rfl⟩
    go_wp2_with fail
    refine hK'.out _ _ ?_ (fun hHeld => ?_)
    · exact c0
    clear hK' K'
    (try simp only [Act.put, List.getElem_toArray, List.getElem_cons_succ, List.getElem_cons_zero, List.setIfInBounds_toArray, List.set_cons_zero, List.set_cons_succ])
    refine wpAnyH_at (i := 14) (v := ?vb14) (d := 114) rfl rfl (by kernel_rfl) (by kernel_rfl) (by kernel_rfl) (fun _ _ _ h => h) (Or.inl ⟨by rfl, fun w' hSw => ?hyb14⟩) (by assumption) ?restb14
    case hyb14 =>
      (try dsimp only at hSw)
      go_simp
      (try with_reducible rfl)
    (try simp only [Act.put, List.setIfInBounds_toArray, List.set_cons_zero, List.set_cons_succ])
    refine wpAnyH_at (i := 15) (v := ?vb15) (d := 115) rfl rfl (by kernel_rfl) (by kernel_rfl) (by kernel_rfl) (fun _ _ _ h => h) (Or.inl ⟨by rfl, fun w' hSw => ?hyb15⟩) (by assumption) ?restb15
    case hyb15 =>
      (try dsimp only at hSw)
      go_simp
      (try with_reducible rfl)
    (try simp only [Act.put, List.setIfInBounds_toArray, List.set_cons_zero, List.set_cons_succ])
    refine wpAnyH_at (i := 16) (v := ?vb16) (d := 116) rfl rfl (by kernel_rfl) (by kernel_rfl) (by kernel_rfl) (fun _ _ _ h => h) (Or.inl ⟨by rfl, fun w' hSw => ?hyb16⟩) (by assumption) ?restb16
    case hyb16 =>
      (try dsimp only at hSw)
      go_simp
      (try with_reducible rfl)
    (try simp only [Act.put, List.setIfInBounds_toArray, List.set_cons_zero, List.set_cons_succ])
    have H5 := hide ((HU.out.low (Below.refl _ _).drew).setZ ⟨R, C, cs, q, col, p, s, false, bl⟩ 3 (.int .i64 (q : Int)) rfl rfl)
    obtain ⟨e0, e1, -⟩ := H5.out.reads
    refine wpAnyH_ready (rs := [17]) (by kernel_rfl) (by simp) ?_
    refine AllReadyH.cons rfl (fun K' hK' => ?_) AllReadyH.nil
    go_simp
    refine hK'.out _ _ ?_ (fun hHeld => ?_)
    · exact e0
    clear hK' K'
    (try simp only [Act.put, List.getElem_toArray, List.getElem_cons_succ, List.getElem_cons_zero, List.setIfInBounds_toArray, List.set_cons_zero, List.set_cons_succ])
    refine wpAnyH_done (by kernel_rfl) ?_ _
    go_wp2
    go_end0
    rw [HSQ.out]
    exact Mr.mk H5.out ((KU.out.trans K2.drew).trans (K2.set _ _ _ _ _)) (.inl rfl)
end Go.Proofs.YtmemdhmjhckmaaaDoor
