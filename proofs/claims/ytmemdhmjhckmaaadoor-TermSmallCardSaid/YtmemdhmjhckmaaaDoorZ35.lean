/- The document's terminal: cells are erased. -/
import Derived.Test.YtmemdhmjhckmaaaDoorZ33
import Derived.Test.YtmemdhmjhckmaaaDoorZ34
namespace Go.Proofs.YtmemdhmjhckmaaaDoor
open Go.RowKit
set_option maxRecDepth 100000

theorem erase_at {R C f : Nat} (hC : 8 ≤ C ∧ C ≤ 200) (hf : f < R * C) (hR : R ≤ 100) : f / C * C + f % C = f ∧ f / C < R ∧ f % C + 1 ≤ C ∧ Int.tdiv (f : Int) (C : Int) = ((f / C : Nat) : Int) ∧ Int.tmod (f : Int) (C : Int) = ((f % C : Nat) : Int) ∧ IntKind.i64.wrap ((f / C : Nat) : Int) = ((f / C : Nat) : Int) := by
  have h1 := Nat.div_add_mod f C
  rw [Nat.mul_comm] at h1
  have h2 := Nat.mod_lt f (show 0 < C by omega)
  have h3 : f / C < R := Nat.div_lt_of_lt_mul (by rw [Nat.mul_comm]; exact hf)
  exact ⟨h1, h3, h2, by rw [Int.tdiv_eq_ediv_of_nonneg (by omega)]; rfl, by rw [Int.tmod_eq_emod_of_nonneg (by omega)]; rfl, by
    have h4 : f / C ≤ 100 := by omega
    generalize f / C = d at h4 ⊢
    exact Go.wrap_small _ (by omega) (by omega)⟩
set_option maxHeartbeats 8000000 in
theorem rerase_any {w0 W : World} {z g cap : Nat} (t : Tm) (h : TrB w0 W z g cap t) (hI : Inv t) (f q : Nat) (hfq : f ≤ q) (hq : q ≤ t.rows * t.cols) :
    Calls Tryd.prog 66 #[.pointer (some ⟨z, 0, none⟩), .int .i64 (f : Int), .int .i64 (q : Int)] W (Mr w0 W z g (wipeT t f (q - f))) := by
  by_cases he : f = q
  · subst he
    have HE := hide (show wipeT t f (f - f) = t by rw [Nat.sub_self]; rfl)
    have q1 : (f : Int) ≤ (f : Int) := Int.le_refl _
    go_enter Tryd.func66, Tryd.ntmps66
    go_wp2
    go_end0
    rw [HE.out]
    exact Mr.mk h (K2.refl _ _ _) (.inl rfl)
  obtain ⟨k, rfl⟩ : ∃ k, q = f + (k + 1) := ⟨q - f - 1, by omega⟩
  have HI := hide hI
  have HIR := hI.hR
  have HIC := hI.hC
  have HIL := hI.hL
  obtain ⟨R, C, cs, row, col, p, s, wt, bl⟩ := t
  dsimp only at hq HIR HIC HIL
  have HSAME := hide (erase_same hI.allW (okH_valid (R := R) (C := C) hI.hL hI.hv) f k (by show f + (k + 1) ≤ cs.length; rw [HIL]; exact hq))
  dsimp only at HSAME
  have hI1 : Inv ⟨R, C, wipeL cs f, row, col, p, s, wt, bl⟩ := hI.wipe f 1 (by show f + 1 ≤ R * C; omega)
  have HI1 := hide hI1
  obtain ⟨n, hn⟩ : ∃ n, R * C = n := ⟨_, rfl⟩
  have hn9 : n ≤ 20000 := by rw [← hn]; exact Nat.le_trans (Nat.mul_le_mul HIR.2 HIC.2) (by decide)
  obtain ⟨x1, x2, x3, x4, x5, x6⟩ := erase_at HIC (show f < R * C by omega) HIR.2
  obtain ⟨y1, y2, y3, y4, y5, y6⟩ := erase_at HIC (show f + k < R * C by omega) HIR.2
  rw [hn] at hq HIL
  obtain ⟨a1, ha1⟩ : ∃ x, f / C = x := ⟨_, rfl⟩
  obtain ⟨b1, hb1⟩ : ∃ x, f % C = x := ⟨_, rfl⟩
  obtain ⟨a2, ha2⟩ : ∃ x, (f + k) / C = x := ⟨_, rfl⟩
  obtain ⟨b2, hb2⟩ : ∃ x, (f + k) % C = x := ⟨_, rfl⟩
  rw [ha1] at x1 x2 x4 x6
  rw [hb1] at x1 x3 x5
  rw [ha2] at y1 y2 y4 y6
  rw [hb2] at y1 y3 y5
  have HX1 := hide x1
  have HY1 := hide y1
  obtain ⟨l, hl⟩ : ∃ x, f + k = x := ⟨_, rfl⟩
  rw [hl] at y4 y5 HY1 HSAME
  have hqi : IntKind.i64.wrap (((f + (k + 1) : Nat) : Int) - 1) = (l : Int) := (Go.wrap_small _ (by omega) (by omega)).trans (by omega)
  obtain ⟨q, hq9⟩ : ∃ x, f + (k + 1) = x := ⟨_, rfl⟩
  rw [hq9] at hqi hq ⊢
  have HQ9 := hide hq9
  have HL9 := hide hl
  have hC0 : ¬ C = 0 := by omega
  have a1R := x2
  have b1C := x3
  have a2R := y2
  have b2C := y3
  have q1 : ¬ (q : Int) ≤ (f : Int) := by omega
  have HN1 := hide HIL
  have HX := hide h
  have KX := hide (K2.refl z g W)
  have HGX := hide (show g = g ∨ W.heap.size ≤ g from .inl rfl)
  clear ha1 hb1 ha2 hb2 x1 x2 x3 y1 y2 y3 hl hq9 hn h hI hI1 HIL he
  go_enter Tryd.func66, Tryd.ntmps66
  have HPU := hide (fun V hV => rput_any (r := 32) (m := 1) (row := a1) (col := b1) (x := blankC) HX.out HI.out HN1.out rfl (.inl rfl) (by decide +kernel) a1R b1C (by decide) V hV)
  dsimp only at HPU
  rw [show inkT 32 ((1 : Nat) : Int) blankC = blankC from rfl, HX1.out, ← wipe_put] at HPU
  rw [show blankC.fg = 0 from rfl, show blankC.bo = false from rfl, show blankC.un = false from rfl, show blankC.iv = false from rfl] at HPU
  have HLN := hide (show (wipeL cs f).length = n by rw [wipe_len]; exact HN1.out)
  go_wp2_with fail
  go_cut [1] (fun v wx => v = .int .i64 (f : Int) ∧ Hid (∃ g3 cap3, TrB w0 wx z g3 cap3 ⟨R, C, wipeL cs f, row, col, p, s, wt, bl⟩ ∧ K2 z g W wx ∧ W.heap.size ≤ g3))
  case first =>
    have hsz := HX.out.b.lt
    obtain ⟨c0, c1, c2, c3, c4, -⟩ := HX.out.reads
    rw [HN1.out] at c2
    have bf := fun i => HX.out.b.frozen i
    have HBD := hide (show Below W.heap.size W W.drew from (Below.refl _ _).drew)
    refine wp_region_held_drew (S := (fun V => V.cell? ⟨z, 1, none⟩ = some (.int .i64 (C : Int)))) (by kernel_rfl) ?_ (fun hHeld => ?_)
    · exact c1
    refine wpAnyH_at (i := 0) (v := ?v0) (d := 10) rfl rfl (by kernel_rfl) (by kernel_rfl) (by kernel_rfl) (fun _ _ _ h => h) (Or.inl ⟨by rfl, fun w' hSw => ?hy0⟩) (by assumption) ?rest0
    case hy0 =>
      (try dsimp only at hSw)
      go_simp
      (try with_reducible rfl)
    (try simp only [Act.put, List.setIfInBounds_toArray, List.set_cons_zero, List.set_cons_succ])
    refine wpAnyH_at (i := 1) (v := ?v1) (d := 11) rfl rfl (by kernel_rfl) (by kernel_rfl) (by kernel_rfl) (fun _ _ _ h => h) (Or.inl ⟨by rfl, fun w' hSw => ?hy1⟩) (by assumption) ?rest1
    case hy1 =>
      (try dsimp only at hSw)
      go_simp
      (try with_reducible rfl)
    (try simp only [Act.put, List.setIfInBounds_toArray, List.set_cons_zero, List.set_cons_succ])
    refine wpAnyH_at (i := 2) (v := ?v2) (d := 12) rfl rfl (by kernel_rfl) (by kernel_rfl) (by kernel_rfl) (fun _ _ _ h => h) (Or.inl ⟨by rfl, fun w' hSw => ?hy2⟩) (by assumption) ?rest2
    case hy2 =>
      (try dsimp only at hSw)
      go_simp
      (try with_reducible rfl)
    (try simp only [Act.put, List.setIfInBounds_toArray, List.set_cons_zero, List.set_cons_succ])
    refine wpAnyH_at (i := 3) (v := ?v3) (d := 13) rfl rfl (by kernel_rfl) (by kernel_rfl) (by kernel_rfl) (fun _ _ _ h => h) (Or.inl ⟨by rfl, fun w' hSw => ?hy3⟩) (by assumption) ?rest3
    case hy3 =>
      (try dsimp only at hSw)
      go_simp
      (try with_reducible rfl)
    (try simp only [Act.put, List.setIfInBounds_toArray, List.set_cons_zero, List.set_cons_succ])
    refine wpAnyH_at (i := 5) (v := ?v5) (d := 15) rfl rfl (by kernel_rfl) (by kernel_rfl) (by kernel_rfl) (fun _ _ _ h => h) (Or.inl ⟨by rfl, fun w' hSw => ?hy5⟩) (by assumption) ?rest5
    case hy5 =>
      (try dsimp only at hSw)
      go_simp
      (try with_reducible rfl)
    (try simp only [Act.put, List.setIfInBounds_toArray, List.set_cons_zero, List.set_cons_succ])
    refine wpAnyH_at (i := 6) (v := ?v6) (d := 16) rfl rfl (by kernel_rfl) (by kernel_rfl) (by kernel_rfl) (fun _ _ _ h => h) (Or.inl ⟨by rfl, fun w' hSw => ?hy6⟩) (by assumption) ?rest6
    case hy6 =>
      (try dsimp only at hSw)
      go_simp
      (try with_reducible rfl)
    (try simp only [Act.put, List.setIfInBounds_toArray, List.set_cons_zero, List.set_cons_succ])
    refine wpAnyH_at (i := 7) (v := ?v7) (d := 17) rfl rfl (by kernel_rfl) (by kernel_rfl) (by kernel_rfl) (fun _ _ _ h => h) (Or.inl ⟨by rfl, fun w' hSw => ?hy7⟩) (by assumption) ?rest7
    case hy7 =>
      (try dsimp only at hSw)
      go_simp
      (try with_reducible rfl)
    (try simp only [Act.put, List.setIfInBounds_toArray, List.set_cons_zero, List.set_cons_succ])
    refine wpAnyH_at (i := 8) (v := ?v8) (d := 18) rfl rfl (by kernel_rfl) (by kernel_rfl) (by kernel_rfl) (fun _ _ _ h => h) (Or.inl ⟨by rfl, fun w' hSw => ?hy8⟩) (by assumption) ?rest8
    case hy8 =>
      (try dsimp only at hSw)
      go_simp
      (try with_reducible rfl)
    (try simp only [Act.put, List.setIfInBounds_toArray, List.set_cons_zero, List.set_cons_succ])
    refine wpAnyH_at (i := 9) (v := ?v9) (d := 19) rfl rfl (by kernel_rfl) (by kernel_rfl) (by kernel_rfl) (fun _ _ _ h => h) (Or.inl ⟨by rfl, fun w' hSw => ?hy9⟩) (by assumption) ?rest9
    case hy9 =>
      (try dsimp only at hSw)
      go_simp
      (try with_reducible rfl)
    (try simp only [Act.put, List.setIfInBounds_toArray, List.set_cons_zero, List.set_cons_succ])
    refine wpAnyH_at (i := 10) (v := ?v10) (d := 20) rfl rfl (by kernel_rfl) (by kernel_rfl) (by kernel_rfl) (fun _ _ _ h => h) (Or.inl ⟨by rfl, fun w' hSw => ?hy10⟩) (by assumption) ?rest10
    case hy10 =>
      (try dsimp only at hSw)
      go_simp
      (try with_reducible rfl)
    (try simp only [Act.put, List.setIfInBounds_toArray, List.set_cons_zero, List.set_cons_succ])
    refine wpAnyH_at (i := 11) (v := ?v11) (d := 21) rfl rfl (by kernel_rfl) (by kernel_rfl) (by kernel_rfl) (fun _ _ _ h => h) (Or.inl ⟨by rfl, fun w' hSw => ?hy11⟩) (by assumption) ?rest11
    case hy11 =>
      (try dsimp only at hSw)
      go_simp
      (try with_reducible rfl)
    (try simp only [Act.put, List.setIfInBounds_toArray, List.set_cons_zero, List.set_cons_succ])
    refine wpAnyH_at (i := 12) (v := ?v12) (d := 22) rfl rfl (by kernel_rfl) (by kernel_rfl) (by kernel_rfl) (fun _ _ _ h => h) (Or.inl ⟨by rfl, fun w' hSw => ?hy12⟩) (by assumption) ?rest12
    case hy12 =>
      (try dsimp only at hSw)
      go_simp
      (try with_reducible rfl)
    (try simp only [Act.put, List.setIfInBounds_toArray, List.set_cons_zero, List.set_cons_succ])
    refine wpAnyH_at (i := 13) (v := ?v13) (d := 23) rfl rfl (by kernel_rfl) (by kernel_rfl) (by kernel_rfl) (fun _ _ _ h => h) (Or.inl ⟨by rfl, fun w' hSw => ?hy13⟩) (by assumption) ?rest13
    case hy13 =>
      (try dsimp only at hSw)
      go_simp
      (try with_reducible rfl)
    (try simp only [Act.put, List.setIfInBounds_toArray, List.set_cons_zero, List.set_cons_succ])
    refine wpAnyH_at (i := 14) (v := ?v14) (d := 24) rfl rfl (by kernel_rfl) (by kernel_rfl) (by kernel_rfl) (fun _ _ _ h => h) (Or.inl ⟨by rfl, fun w' hSw => ?hy14⟩) (by assumption) ?rest14
    case hy14 =>
      (try dsimp only at hSw)
      go_simp
      (try with_reducible rfl)
    (try simp only [Act.put, List.setIfInBounds_toArray, List.set_cons_zero, List.set_cons_succ])
    refine wpAnyH_at (i := 15) (v := ?v15) (d := 25) rfl rfl (by kernel_rfl) (by kernel_rfl) (by kernel_rfl) (fun _ _ _ h => h) (Or.inl ⟨by rfl, fun w' hSw => ?hy15⟩) (by assumption) ?rest15
    case hy15 =>
      (try dsimp only at hSw)
      go_simp
      (try with_reducible rfl)
    (try simp only [Act.put, List.setIfInBounds_toArray, List.set_cons_zero, List.set_cons_succ])
    refine wpAnyH_at (i := 16) (v := ?v16) (d := 26) rfl rfl (by kernel_rfl) (by kernel_rfl) (by kernel_rfl) (fun _ _ _ h => h) (Or.inl ⟨by rfl, fun w' hSw => ?hy16⟩) (by assumption) ?rest16
    case hy16 =>
      (try dsimp only at hSw)
      go_simp
      (try with_reducible rfl)
    (try simp only [Act.put, List.setIfInBounds_toArray, List.set_cons_zero, List.set_cons_succ])
    refine wpAnyH_at (i := 17) (v := ?v17) (d := 27) rfl rfl (by kernel_rfl) (by kernel_rfl) (by kernel_rfl) (fun _ _ _ h => h) (Or.inl ⟨by rfl, fun w' hSw => ?hy17⟩) (by assumption) ?rest17
    case hy17 =>
      (try dsimp only at hSw)
      go_simp
      (try with_reducible rfl)
    (try simp only [Act.put, List.setIfInBounds_toArray, List.set_cons_zero, List.set_cons_succ])
    refine wpAnyH_at (i := 18) (v := ?v18) (d := 28) rfl rfl (by kernel_rfl) (by kernel_rfl) (by kernel_rfl) (fun _ _ _ h => h) (Or.inl ⟨by rfl, fun w' hSw => ?hy18⟩) (by assumption) ?rest18
    case hy18 =>
      (try dsimp only at hSw)
      go_simp
      (try with_reducible rfl)
    (try simp only [Act.put, List.setIfInBounds_toArray, List.set_cons_zero, List.set_cons_succ])
    refine wpAnyH_at (i := 19) (v := ?v19) (d := 29) rfl rfl (by kernel_rfl) (by kernel_rfl) (by kernel_rfl) (fun _ _ _ h => h) (Or.inl ⟨by rfl, fun w' hSw => ?hy19⟩) (by assumption) ?rest19
    case hy19 =>
      (try dsimp only at hSw)
      go_simp
      (try with_reducible rfl)
    (try simp only [Act.put, List.setIfInBounds_toArray, List.set_cons_zero, List.set_cons_succ])
    refine wpAnyH_ready (rs := [4]) (by kernel_rfl) (by simp) ?_
    refine AllReadyH.cons rfl (fun K' hK' => ?_) AllReadyH.nil
    go_simp
    refine hK'.out _ _ ?_ (fun hHeld => ?_)
    · exact c1
    clear hK' K'
    (try simp only [Act.put, List.getElem_toArray, List.getElem_cons_succ, List.getElem_cons_zero, List.setIfInBounds_toArray, List.set_cons_zero, List.set_cons_succ])
    refine wpAnyH_ready (rs := [20]) (by kernel_rfl) (by simp) ?_
    refine AllReadyH.cons rfl (fun K' hK' => ?_) AllReadyH.nil
    go_simp
    refine (HPU.out _ HBD.out).mono ?_; rintro e w3 ⟨v3, rfl, g3, cap3, rfl, hcap3, hown3, hg3, hb3⟩
    have HO3 := hide hown3
    have HB3 := hide hb3
    have HT3 := hide (HX.out.low hb3)
    obtain ⟨d0, d1, d2, d3, d4, -⟩ := HT3.out.reads
    rw [HN1.out] at d2
    have df := fun i => HT3.out.b.frozen i
    have HLD := hide (HX.out.laid HB3.out HLN.out hcap3 hg3 HO3.out)
    obtain ⟨-, f1, -⟩ := HLD.out.1.reads
    clear hown3 hb3
    go_wp2_with fail
    refine hK'.out _ _ ?_ (fun hHeld => ?_)
    · exact d1
    clear hK' K'
    (try simp only [Act.put, List.getElem_toArray, List.getElem_cons_succ, List.getElem_cons_zero, List.setIfInBounds_toArray, List.set_cons_zero, List.set_cons_succ])
    refine wpAnyH_at (i := 21) (v := ?v21) (d := 31) rfl rfl (by kernel_rfl) (by kernel_rfl) (by kernel_rfl) (fun _ _ _ h => h) (Or.inl ⟨by rfl, fun w' hSw => ?hy21⟩) (by assumption) ?rest21
    case hy21 =>
      (try dsimp only at hSw)
      go_simp
      (try with_reducible rfl)
    (try simp only [Act.put, List.setIfInBounds_toArray, List.set_cons_zero, List.set_cons_succ])
    refine wpAnyH_at (i := 22) (v := ?v22) (d := 32) rfl rfl (by kernel_rfl) (by kernel_rfl) (by kernel_rfl) (fun _ _ _ h => h) (Or.inl ⟨by rfl, fun w' hSw => ?hy22⟩) (by assumption) ?rest22
    case hy22 =>
      (try dsimp only at hSw)
      go_simp
      (try with_reducible rfl)
    (try simp only [Act.put, List.setIfInBounds_toArray, List.set_cons_zero, List.set_cons_succ])
    refine wpAnyH_ready (rs := [23]) (by kernel_rfl) (by simp) ?_
    refine AllReadyH.cons rfl (fun K' hK' => ?_) AllReadyH.nil
    go_simp
    refine hK'.out _ _ ?_ (fun hHeld => ?_)
    · exact f1
    clear hK' K'
    (try simp only [Act.put, List.getElem_toArray, List.getElem_cons_succ, List.getElem_cons_zero, List.setIfInBounds_toArray, List.set_cons_zero, List.set_cons_succ])
    refine wpAnyH_done (by kernel_rfl) ?_ _
    go_wp2_with fail
    go_meet
    exact ⟨rfl, hide ⟨g3, cap3, HLD.out.1, HLD.out.2, hg3⟩⟩
  case rest =>
    obtain ⟨rfl, H9⟩ := hcut
    obtain ⟨g4, cap4, H4, K4, hg4⟩ := H9.out
    have HGX2 := hide (show g4 = g ∨ W.heap.size ≤ g4 from .inr (Nat.le_trans KX.out.size hg4))
    have KX2 := hide (KX.out.thenG K4 (.inl rfl))
    have HX2 := hide H4
    have HN2 := hide HLN.out
    clear H9 H4 K4 hg4 HPU HLN HX KX HGX HN1 HX1 HI x4 x5 x6 a1R b1C
    have HX := HX2
    have KX := KX2
    have HGX := HGX2
    have HN1 := HN2
    clear HX2 KX2 HGX2 HN2
    obtain ⟨g1, hg1⟩ : ∃ q, g4 = q := ⟨_, rfl⟩
    obtain ⟨cap1, hcap1⟩ : ∃ q, cap4 = q := ⟨_, rfl⟩
    rw [hg1, hcap1] at HX
    rw [hg1] at HGX
    clear hg1 hcap1
    obtain ⟨w2, hw2⟩ : ∃ V, wc = V := ⟨_, rfl⟩
    rw [hw2] at HX KX
    (try rw [hw2])
    clear hw2
    have HPU := hide (fun V hV => rput_any (r := 32) (m := 1) (row := a2) (col := b2) (x := blankC) HX.out HI1.out HN1.out rfl (.inl rfl) (by decide +kernel) a2R b2C (by decide) V hV)
    dsimp only at HPU
    rw [show inkT 32 ((1 : Nat) : Int) blankC = blankC from rfl, HY1.out, ← wipe_put] at HPU
    rw [show blankC.fg = 0 from rfl, show blankC.bo = false from rfl, show blankC.un = false from rfl, show blankC.iv = false from rfl] at HPU
    have HLN := hide (show (wipeL (wipeL cs f) l).length = n by rw [wipe_len]; exact HN1.out)
    go_wp2_with fail
    go_cut [1] (fun v wx => v = .int .i64 (f : Int) ∧ Hid (∃ g3 cap3, TrB w0 wx z g3 cap3 ⟨R, C, wipeL (wipeL cs f) l, row, col, p, s, wt, bl⟩ ∧ K2 z g1 w2 wx ∧ w2.heap.size ≤ g3))
    case first =>
      have hsz := HX.out.b.lt
      obtain ⟨c0, c1, c2, c3, c4, -⟩ := HX.out.reads
      rw [HN1.out] at c2
      have bf := fun i => HX.out.b.frozen i
      have HBD := hide (show Below w2.heap.size w2 w2.drew from (Below.refl _ _).drew)
      refine wp_region_held_drew (S := (fun V => V.cell? ⟨z, 1, none⟩ = some (.int .i64 (C : Int)))) (by kernel_rfl) ?_ (fun hHeld => ?_)
      · exact c1
      refine wpAnyH_at (i := 0) (v := ?vb0) (d := 33) rfl rfl (by kernel_rfl) (by kernel_rfl) (by kernel_rfl) (fun _ _ _ h => h) (Or.inl ⟨by rfl, fun w' hSw => ?hyb0⟩) (by assumption) ?restb0
      case hyb0 =>
        (try dsimp only at hSw)
        go_simp
        (try with_reducible rfl)
      (try simp only [Act.put, List.setIfInBounds_toArray, List.set_cons_zero, List.set_cons_succ])
      refine wpAnyH_at (i := 1) (v := ?vb1) (d := 34) rfl rfl (by kernel_rfl) (by kernel_rfl) (by kernel_rfl) (fun _ _ _ h => h) (Or.inl ⟨by rfl, fun w' hSw => ?hyb1⟩) (by assumption) ?restb1
      case hyb1 =>
        (try dsimp only at hSw)
        go_simp
        (try with_reducible rfl)
      (try simp only [Act.put, List.setIfInBounds_toArray, List.set_cons_zero, List.set_cons_succ])
      refine wpAnyH_at (i := 2) (v := ?vb2) (d := 35) rfl rfl (by kernel_rfl) (by kernel_rfl) (by kernel_rfl) (fun _ _ _ h => h) (Or.inl ⟨by rfl, fun w' hSw => ?hyb2⟩) (by assumption) ?restb2
      case hyb2 =>
        (try dsimp only at hSw)
        go_simp
        (try with_reducible rfl)
      (try simp only [Act.put, List.setIfInBounds_toArray, List.set_cons_zero, List.set_cons_succ])
      refine wpAnyH_at (i := 3) (v := ?vb3) (d := 36) rfl rfl (by kernel_rfl) (by kernel_rfl) (by kernel_rfl) (fun _ _ _ h => h) (Or.inl ⟨by rfl, fun w' hSw => ?hyb3⟩) (by assumption) ?restb3
      case hyb3 =>
        (try dsimp only at hSw)
        go_simp
        (try with_reducible rfl)
      (try simp only [Act.put, List.setIfInBounds_toArray, List.set_cons_zero, List.set_cons_succ])
      refine wpAnyH_at (i := 5) (v := ?vb5) (d := 38) rfl rfl (by kernel_rfl) (by kernel_rfl) (by kernel_rfl) (fun _ _ _ h => h) (Or.inl ⟨by rfl, fun w' hSw => ?hyb5⟩) (by assumption) ?restb5
      case hyb5 =>
        (try dsimp only at hSw)
        go_simp
        (try with_reducible rfl)
      (try simp only [Act.put, List.setIfInBounds_toArray, List.set_cons_zero, List.set_cons_succ])
      refine wpAnyH_at (i := 6) (v := ?vb6) (d := 39) rfl rfl (by kernel_rfl) (by kernel_rfl) (by kernel_rfl) (fun _ _ _ h => h) (Or.inl ⟨by rfl, fun w' hSw => ?hyb6⟩) (by assumption) ?restb6
      case hyb6 =>
        (try dsimp only at hSw)
        go_simp
        (try with_reducible rfl)
      (try simp only [Act.put, List.setIfInBounds_toArray, List.set_cons_zero, List.set_cons_succ])
      refine wpAnyH_at (i := 7) (v := ?vb7) (d := 40) rfl rfl (by kernel_rfl) (by kernel_rfl) (by kernel_rfl) (fun _ _ _ h => h) (Or.inl ⟨by rfl, fun w' hSw => ?hyb7⟩) (by assumption) ?restb7
      case hyb7 =>
        (try dsimp only at hSw)
        go_simp
        (try with_reducible rfl)
      (try simp only [Act.put, List.setIfInBounds_toArray, List.set_cons_zero, List.set_cons_succ])
      refine wpAnyH_at (i := 8) (v := ?vb8) (d := 41) rfl rfl (by kernel_rfl) (by kernel_rfl) (by kernel_rfl) (fun _ _ _ h => h) (Or.inl ⟨by rfl, fun w' hSw => ?hyb8⟩) (by assumption) ?restb8
      case hyb8 =>
        (try dsimp only at hSw)
        go_simp
        (try with_reducible rfl)
      (try simp only [Act.put, List.setIfInBounds_toArray, List.set_cons_zero, List.set_cons_succ])
      refine wpAnyH_at (i := 9) (v := ?vb9) (d := 42) rfl rfl (by kernel_rfl) (by kernel_rfl) (by kernel_rfl) (fun _ _ _ h => h) (Or.inl ⟨by rfl, fun w' hSw => ?hyb9⟩) (by assumption) ?restb9
      case hyb9 =>
        (try dsimp only at hSw)
        go_simp
        (try with_reducible rfl)
      (try simp only [Act.put, List.setIfInBounds_toArray, List.set_cons_zero, List.set_cons_succ])
      refine wpAnyH_at (i := 10) (v := ?vb10) (d := 43) rfl rfl (by kernel_rfl) (by kernel_rfl) (by kernel_rfl) (fun _ _ _ h => h) (Or.inl ⟨by rfl, fun w' hSw => ?hyb10⟩) (by assumption) ?restb10
      case hyb10 =>
        (try dsimp only at hSw)
        go_simp
        (try with_reducible rfl)
      (try simp only [Act.put, List.setIfInBounds_toArray, List.set_cons_zero, List.set_cons_succ])
      refine wpAnyH_at (i := 11) (v := ?vb11) (d := 44) rfl rfl (by kernel_rfl) (by kernel_rfl) (by kernel_rfl) (fun _ _ _ h => h) (Or.inl ⟨by rfl, fun w' hSw => ?hyb11⟩) (by assumption) ?restb11
      case hyb11 =>
        (try dsimp only at hSw)
        go_simp
        (try with_reducible rfl)
      (try simp only [Act.put, List.setIfInBounds_toArray, List.set_cons_zero, List.set_cons_succ])
      refine wpAnyH_at (i := 12) (v := ?vb12) (d := 45) rfl rfl (by kernel_rfl) (by kernel_rfl) (by kernel_rfl) (fun _ _ _ h => h) (Or.inl ⟨by rfl, fun w' hSw => ?hyb12⟩) (by assumption) ?restb12
      case hyb12 =>
        (try dsimp only at hSw)
        go_simp
        (try with_reducible rfl)
      (try simp only [Act.put, List.setIfInBounds_toArray, List.set_cons_zero, List.set_cons_succ])
      refine wpAnyH_at (i := 13) (v := ?vb13) (d := 46) rfl rfl (by kernel_rfl) (by kernel_rfl) (by kernel_rfl) (fun _ _ _ h => h) (Or.inl ⟨by rfl, fun w' hSw => ?hyb13⟩) (by assumption) ?restb13
      case hyb13 =>
        (try dsimp only at hSw)
        go_simp
        (try with_reducible rfl)
      (try simp only [Act.put, List.setIfInBounds_toArray, List.set_cons_zero, List.set_cons_succ])
      refine wpAnyH_at (i := 14) (v := ?vb14) (d := 47) rfl rfl (by kernel_rfl) (by kernel_rfl) (by kernel_rfl) (fun _ _ _ h => h) (Or.inl ⟨by rfl, fun w' hSw => ?hyb14⟩) (by assumption) ?restb14
      case hyb14 =>
        (try dsimp only at hSw)
        go_simp
        (try with_reducible rfl)
      (try simp only [Act.put, List.setIfInBounds_toArray, List.set_cons_zero, List.set_cons_succ])
      refine wpAnyH_at (i := 15) (v := ?vb15) (d := 48) rfl rfl (by kernel_rfl) (by kernel_rfl) (by kernel_rfl) (fun _ _ _ h => h) (Or.inl ⟨by rfl, fun w' hSw => ?hyb15⟩) (by assumption) ?restb15
      case hyb15 =>
        (try dsimp only at hSw)
        go_simp
        (try with_reducible rfl)
      (try simp only [Act.put, List.setIfInBounds_toArray, List.set_cons_zero, List.set_cons_succ])
      refine wpAnyH_at (i := 16) (v := ?vb16) (d := 49) rfl rfl (by kernel_rfl) (by kernel_rfl) (by kernel_rfl) (fun _ _ _ h => h) (Or.inl ⟨by rfl, fun w' hSw => ?hyb16⟩) (by assumption) ?restb16
      case hyb16 =>
        (try dsimp only at hSw)
        go_simp
        (try with_reducible rfl)
      (try simp only [Act.put, List.setIfInBounds_toArray, List.set_cons_zero, List.set_cons_succ])
      refine wpAnyH_at (i := 17) (v := ?vb17) (d := 50) rfl rfl (by kernel_rfl) (by kernel_rfl) (by kernel_rfl) (fun _ _ _ h => h) (Or.inl ⟨by rfl, fun w' hSw => ?hyb17⟩) (by assumption) ?restb17
      case hyb17 =>
        (try dsimp only at hSw)
        go_simp
        (try with_reducible rfl)
      (try simp only [Act.put, List.setIfInBounds_toArray, List.set_cons_zero, List.set_cons_succ])
      refine wpAnyH_at (i := 18) (v := ?vb18) (d := 51) rfl rfl (by kernel_rfl) (by kernel_rfl) (by kernel_rfl) (fun _ _ _ h => h) (Or.inl ⟨by rfl, fun w' hSw => ?hyb18⟩) (by assumption) ?restb18
      case hyb18 =>
        (try dsimp only at hSw)
        go_simp
        (try with_reducible rfl)
      (try simp only [Act.put, List.setIfInBounds_toArray, List.set_cons_zero, List.set_cons_succ])
      refine wpAnyH_at (i := 19) (v := ?vb19) (d := 52) rfl rfl (by kernel_rfl) (by kernel_rfl) (by kernel_rfl) (fun _ _ _ h => h) (Or.inl ⟨by rfl, fun w' hSw => ?hyb19⟩) (by assumption) ?restb19
      case hyb19 =>
        (try dsimp only at hSw)
        go_simp
        (try with_reducible rfl)
      (try simp only [Act.put, List.setIfInBounds_toArray, List.set_cons_zero, List.set_cons_succ])
      refine wpAnyH_at (i := 20) (v := ?vb20) (d := 53) rfl rfl (by kernel_rfl) (by kernel_rfl) (by kernel_rfl) (fun _ _ _ h => h) (Or.inl ⟨by rfl, fun w' hSw => ?hyb20⟩) (by assumption) ?restb20
      case hyb20 =>
        (try dsimp only at hSw)
        go_simp
        (try with_reducible rfl)
      (try simp only [Act.put, List.setIfInBounds_toArray, List.set_cons_zero, List.set_cons_succ])
      refine wpAnyH_at (i := 21) (v := ?vb21) (d := 54) rfl rfl (by kernel_rfl) (by kernel_rfl) (by kernel_rfl) (fun _ _ _ h => h) (Or.inl ⟨by rfl, fun w' hSw => ?hyb21⟩) (by assumption) ?restb21
      case hyb21 =>
        (try dsimp only at hSw)
        go_simp
        (try with_reducible rfl)
      (try simp only [Act.put, List.setIfInBounds_toArray, List.set_cons_zero, List.set_cons_succ])
      refine wpAnyH_ready (rs := [4]) (by kernel_rfl) (by simp) ?_
      refine AllReadyH.cons rfl (fun K' hK' => ?_) AllReadyH.nil
      go_simp
      refine hK'.out _ _ ?_ (fun hHeld => ?_)
      · exact c1
      clear hK' K'
      (try simp only [Act.put, List.getElem_toArray, List.getElem_cons_succ, List.getElem_cons_zero, List.setIfInBounds_toArray, List.set_cons_zero, List.set_cons_succ])
      refine wpAnyH_ready (rs := [22]) (by kernel_rfl) (by simp) ?_
      refine AllReadyH.cons rfl (fun K' hK' => ?_) AllReadyH.nil
      go_simp
      refine (HPU.out _ HBD.out).mono ?_; rintro e w3 ⟨v3, rfl, g3, cap3, rfl, hcap3, hown3, hg3, hb3⟩
      have HO3 := hide hown3
      have HB3 := hide hb3
      have HT3 := hide (HX.out.low hb3)
      obtain ⟨d0, d1, d2, d3, d4, -⟩ := HT3.out.reads
      rw [HN1.out] at d2
      have df := fun i => HT3.out.b.frozen i
      have HLD := hide (HX.out.laid HB3.out HLN.out hcap3 hg3 HO3.out)
      obtain ⟨-, f1, -⟩ := HLD.out.1.reads
      clear hown3 hb3
      go_wp2_with fail
      refine hK'.out _ _ ?_ (fun hHeld => ?_)
      · exact d1
      clear hK' K'
      (try simp only [Act.put, List.getElem_toArray, List.getElem_cons_succ, List.getElem_cons_zero, List.setIfInBounds_toArray, List.set_cons_zero, List.set_cons_succ])
      refine wpAnyH_at (i := 23) (v := ?vb23) (d := 56) rfl rfl (by kernel_rfl) (by kernel_rfl) (by kernel_rfl) (fun _ _ _ h => h) (Or.inl ⟨by rfl, fun w' hSw => ?hyb23⟩) (by assumption) ?restb23
      case hyb23 =>
        (try dsimp only at hSw)
        go_simp
        (try with_reducible rfl)
      (try simp only [Act.put, List.setIfInBounds_toArray, List.set_cons_zero, List.set_cons_succ])
      refine wpAnyH_at (i := 24) (v := ?vb24) (d := 57) rfl rfl (by kernel_rfl) (by kernel_rfl) (by kernel_rfl) (fun _ _ _ h => h) (Or.inl ⟨by rfl, fun w' hSw => ?hyb24⟩) (by assumption) ?restb24
      case hyb24 =>
        (try dsimp only at hSw)
        go_simp
        (try with_reducible rfl)
      (try simp only [Act.put, List.setIfInBounds_toArray, List.set_cons_zero, List.set_cons_succ])
      refine wpAnyH_ready (rs := [25]) (by kernel_rfl) (by simp) ?_
      refine AllReadyH.cons rfl (fun K' hK' => ?_) AllReadyH.nil
      go_simp
      refine hK'.out _ _ ?_ (fun hHeld => ?_)
      · exact f1
      clear hK' K'
      (try simp only [Act.put, List.getElem_toArray, List.getElem_cons_succ, List.getElem_cons_zero, List.setIfInBounds_toArray, List.set_cons_zero, List.set_cons_succ])
      refine wpAnyH_done (by kernel_rfl) ?_ _
      go_wp2_with fail
      go_meet
      exact ⟨rfl, hide ⟨g3, cap3, HLD.out.1, HLD.out.2, hg3⟩⟩
    case rest =>
      obtain ⟨rfl, H9⟩ := hcut
      obtain ⟨g4, cap4, H4, K4, hg4⟩ := H9.out
      have HGX2 := hide (show g4 = g ∨ W.heap.size ≤ g4 from .inr (Nat.le_trans KX.out.size hg4))
      have KX2 := hide (KX.out.thenG K4 HGX.out)
      have HX2 := hide H4
      have HN2 := hide HLN.out
      clear H9 H4 K4 hg4 HPU HLN HX KX HGX HN1 HY1 HI1 y4 y5 y6 a2R b2C hqi hC0
      have HX := HX2
      have KX := KX2
      have HGX := HGX2
      have HN1 := HN2
      clear HX2 KX2 HGX2 HN2
      obtain ⟨g1, hg1⟩ : ∃ q, g4 = q := ⟨_, rfl⟩
      obtain ⟨cap1, hcap1⟩ : ∃ q, cap4 = q := ⟨_, rfl⟩
      rw [hg1, hcap1] at HX
      rw [hg1] at HGX
      clear hg1 hcap1
      obtain ⟨w2, hw2⟩ : ∃ V, wc = V := ⟨_, rfl⟩
      rw [hw2] at HX KX
      (try rw [hw2])
      clear hw2
      go_wp2_with fail
      go_loopw [6] (fun iv wr => ∃ j i : Nat, iv = .int .i64 (i : Int) ∧ j ≤ k + 1 ∧ Hid (f + j = i) ∧ Hid (TrB w0 wr z g1 cap1 ⟨R, C, blanksN (wipeL (wipeL cs f) l) f j, row, col, p, s, wt, bl⟩) ∧ Hid (K2 z g W wr)) (fun iv _ => q - (intOf iv).toNat)
      case atStart => exact ⟨0, f, rfl, by omega, hide rfl, HX, KX⟩
      case round =>
        have hzg := HX.out.hz
        clear HX KX
        obtain ⟨j, i, rfl, hj, HJ, HT, HK⟩ := hrel
        have hji := HJ.out
        have hqk := HQ9.out
        have HLN := hide (show (blanksN (wipeL (wipeL cs f) l) f j).length = n by rw [blanksN_len]; exact HN1.out)
        by_cases hlt : i < q
        · have hin : (i : Int) < (q : Int) := by omega
          have hin2 : (i : Int) < (n : Int) := by omega
          have hi0 : (0 : Int) ≤ (i : Int) := by omega
          have hnl : i < n := by omega
          obtain ⟨d, hd⟩ : ∃ d, (blanksN (wipeL (wipeL cs f) l) f j)[i]? = some d := ⟨_, List.getElem?_eq_getElem (by rw [HLN.out]; omega)⟩
          have HD := hide hd
          have HST := hide (show (blanksN (wipeL (wipeL cs f) l) f j).set i blankC = blanksN (wipeL (wipeL cs f) l) f (j + 1) by rw [← hji]; rfl)
          have hjk : j + 1 ≤ k + 1 := by omega
          have hj1 : f + (j + 1) = i + 1 := by omega
          have HJ1 := hide hj1
          obtain ⟨-, -, c2, -⟩ := HT.out.reads
          rw [HLN.out] at c2
          clear hd hji hqk hj1
          go_wp2_with fail
          refine wp_region_held_drew (S := (fun V => V.cell? ⟨z, 2, none⟩ = some (.slice (some ⟨g1, 0, none⟩) n cap1))) (by kernel_rfl) ?_ (fun hHeld => ?_)
          · exact c2
          refine wpAnyH_at (i := 0) (v := ?vc0) (d := 64) rfl rfl (by kernel_rfl) (by kernel_rfl) (by kernel_rfl) (fun _ _ _ h => h) (Or.inl ⟨by rfl, fun w' hSw => ?hyc0⟩) (by assumption) ?restc0
          case hyc0 =>
            (try dsimp only at hSw)
            go_simp
            (try with_reducible rfl)
          (try simp only [Act.put, List.setIfInBounds_toArray, List.set_cons_zero, List.set_cons_succ])
          refine wpAnyH_at (i := 1) (v := ?vc1) (d := 65) rfl rfl (by kernel_rfl) (by kernel_rfl) (by kernel_rfl) (fun _ _ _ h => h) (Or.inl ⟨by rfl, fun w' hSw => ?hyc1⟩) (by assumption) ?restc1
          case hyc1 =>
            (try dsimp only at hSw)
            go_simp
            (try with_reducible rfl)
          (try simp only [Act.put, List.setIfInBounds_toArray, List.set_cons_zero, List.set_cons_succ])
          refine wpAnyH_at (i := 2) (v := ?vc2) (d := 66) rfl rfl (by kernel_rfl) (by kernel_rfl) (by kernel_rfl) (fun _ _ _ h => h) (Or.inl ⟨by rfl, fun w' hSw => ?hyc2⟩) (by assumption) ?restc2
          case hyc2 =>
            (try dsimp only at hSw)
            go_simp
            (try with_reducible rfl)
          (try simp only [Act.put, List.setIfInBounds_toArray, List.set_cons_zero, List.set_cons_succ])
          refine wpAnyH_at (i := 3) (v := ?vc3) (d := 67) rfl rfl (by kernel_rfl) (by kernel_rfl) (by kernel_rfl) (fun _ _ _ h => h) (Or.inl ⟨by rfl, fun w' hSw => ?hyc3⟩) (by assumption) ?restc3
          case hyc3 =>
            (try dsimp only at hSw)
            go_simp
            (try with_reducible rfl)
          (try simp only [Act.put, List.setIfInBounds_toArray, List.set_cons_zero, List.set_cons_succ])
          refine wpAnyH_at (i := 4) (v := ?vc4) (d := 68) rfl rfl (by kernel_rfl) (by kernel_rfl) (by kernel_rfl) (fun _ _ _ h => h) (Or.inl ⟨by rfl, fun w' hSw => ?hyc4⟩) (by assumption) ?restc4
          case hyc4 =>
            (try dsimp only at hSw)
            go_simp
            (try with_reducible rfl)
          (try simp only [Act.put, List.setIfInBounds_toArray, List.set_cons_zero, List.set_cons_succ])
          refine wpAnyH_at (i := 5) (v := ?vc5) (d := 69) rfl rfl (by kernel_rfl) (by kernel_rfl) (by kernel_rfl) (fun _ _ _ h => h) (Or.inl ⟨by rfl, fun w' hSw => ?hyc5⟩) (by assumption) ?restc5
          case hyc5 =>
            (try dsimp only at hSw)
            go_simp
            (try with_reducible rfl)
          (try simp only [Act.put, List.setIfInBounds_toArray, List.set_cons_zero, List.set_cons_succ])
          refine wpAnyH_ready (rs := [6]) (by kernel_rfl) (by simp) ?_
          refine AllReadyH.cons rfl (fun K' hK' => ?_) AllReadyH.nil
          go_simp
          refine (blank_any _).mono ?_; rintro e w3 ⟨rfl, hb3⟩
          have HT3 := hide ((HT.out.low (Below.refl _ _).drew).low hb3)
          have K3 := hide ((HK.out.trans K2.drew).trans (K2.of hb3))
          obtain ⟨-, -, d2, -⟩ := HT3.out.reads
          rw [HLN.out] at d2
          obtain ⟨y0, y1, y2, y3, y4, y5⟩ := own_reads HT3.out.own HD.out
          have df := fun i => HT3.out.own.frozen i
          obtain ⟨-, -, e2, -⟩ := (HT3.out.setG i blankC (by dsimp only; rw [HLN.out]; omega)).reads
          rw [List.length_set, HLN.out] at e2
          clear hb3
          unfold clV blankC
          go_wp2_with fail
          refine hK'.out _ _ ?_ (fun hHeld => ?_)
          · exact d2
          clear hK' K'
          (try simp only [Act.put, List.getElem_toArray, List.getElem_cons_succ, List.getElem_cons_zero, List.setIfInBounds_toArray, List.set_cons_zero, List.set_cons_succ])
          refine wpAnyH_at (i := 7) (v := ?vc7) (d := 71) rfl rfl (by kernel_rfl) (by kernel_rfl) (by kernel_rfl) (fun _ _ _ h => h) (Or.inl ⟨by rfl, fun w' hSw => ?hyc7⟩) (by assumption) ?restc7
          case hyc7 =>
            (try dsimp only at hSw)
            go_simp
            (try with_reducible rfl)
          (try simp only [Act.put, List.setIfInBounds_toArray, List.set_cons_zero, List.set_cons_succ])
          refine wpAnyH_ready (rs := [8]) (by kernel_rfl) (by simp) ?_
          refine AllReadyH.cons rfl (fun K' hK' => ?_) AllReadyH.nil
          go_simp
          refine hK'.out _ _ ?_ (fun hHeld => ?_)
          · exact e2
          clear hK' K'
          (try simp only [Act.put, List.getElem_toArray, List.getElem_cons_succ, List.getElem_cons_zero, List.setIfInBounds_toArray, List.set_cons_zero, List.set_cons_succ])
          refine wpAnyH_done (by kernel_rfl) ?_ _
          obtain ⟨U, hU, HU, KU⟩ := named (R := fun V => TrB w0 V z g1 cap1 _ ∧ K2 z g1 w3 V) ⟨HT3.out.setG i blankC (by dsimp only; rw [HLN.out]; omega), set6_k2 z g1 i w3 blankC⟩
          dsimp only at HU
          rw [HST.out] at HU
          have hU2 : ((((((w3.setCell ⟨g1, i * 6, none⟩ (.int .i32 32)).setCell ⟨g1, i * 6 + 1, none⟩ (.int .i64 1)).setCell ⟨g1, i * 6 + 2, none⟩ (.int .i64 0)).setCell ⟨g1, i * 6 + 3, none⟩ (.bool false)).setCell ⟨g1, i * 6 + 4, none⟩ (.bool false)).setCell ⟨g1, i * 6 + 5, none⟩ (.bool false)) = U := hU
          rw [hU2]
          have HU := hide HU
          have KU := hide (K3.out.thenG KU HGX.out)
          clear hU hU2 HT HK HT3 K3 y0 y1 y2 y3 y4 y5 df d2 e2 c2
          go_wp2
          exact ⟨⟨j + 1, i + 1, by go_num, hjk, HJ1, HU, KU⟩, by simp [intOf]; omega⟩
        · have hin : ¬ (i : Int) < (q : Int) := by omega
          obtain rfl : j = k + 1 := by omega
          have HEE := hide (show wipeT ⟨R, C, cs, row, col, p, s, wt, bl⟩ f (q - f) = ⟨R, C, blanksN (wipeL (wipeL cs f) l) f (k + 1), row, col, p, s, wt, bl⟩ by rw [HSAME.out, ← hqk, show f + (k + 1) - f = k + 1 by omega]; rfl)
          clear hji hqk
          go_wp2
          go_end0
          rw [HEE.out]
          exact Mr.mk HT.out HK.out HGX.out
end Go.Proofs.YtmemdhmjhckmaaaDoor
