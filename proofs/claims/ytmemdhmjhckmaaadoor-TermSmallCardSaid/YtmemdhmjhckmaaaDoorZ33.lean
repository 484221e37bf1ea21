/- The document's terminal: a rune is shown, whatever the cursor's place. -/
import Derived.Test.YtmemdhmjhckmaaaDoorZ32
import Derived.Deep.CutBlock
import Derived.Deep.DeepCutAuto
import Derived.Deep.RegionHeld3
namespace Go.Proofs.YtmemdhmjhckmaaaDoor
open Go.RowKit
set_option maxRecDepth 100000

theorem feed_col (R C : Nat) (cs : List Cl) (row col : Nat) (p : Nat × ByteArray) (s : Cl) (wt wt2 : Bool) (bl : Nat) : ∃ cs1 row1, feedM ⟨R, C, cs, row, col, p, s, wt, bl⟩ = ⟨R, C, cs1, row1, col, p, s, wt, bl⟩ ∧ feedM ⟨R, C, cs, row, col, p, s, wt2, bl⟩ = ⟨R, C, cs1, row1, col, p, s, wt2, bl⟩ := by
  unfold feedM
  dsimp only
  split
  · exact ⟨_, _, rfl, rfl⟩
  · exact ⟨_, _, rfl, rfl⟩
theorem lay_form (R C : Nat) (cs : List Cl) (row col : Nat) (p : Nat × ByteArray) (s : Cl) (wt : Bool) (bl : Nat) (r : Int) (m : Nat) (hm : m = 1 ∨ m = 2) (q : Nat) (b : Bool) (hq : (if C ≤ col + m then C - 1 else col + m) = q) (hb : decide (C ≤ col + m) = b) :
    layM ⟨R, C, cs, row, col, p, s, wt, bl⟩ r m = ⟨R, C, putL cs (row * C + col) m (inkT r m s), row, q, p, s, b, bl⟩ := by
  subst hq hb
  unfold layM
  dsimp only
  rw [lay_put _ _ _ hm]
set_option maxHeartbeats 4000000 in
theorem rtshow_w {w0 W : World} {z g cap : Nat} (t : Tm) (h : TrB w0 W z g cap t) (hI : Inv t) (r : Int) (m : Nat) (hm : m = 1 ∨ m = 2) (hr : cells r = ((m : Nat) : Int)) (hw : t.waits = true) :
    Calls Tryd.prog 32 #[.pointer (some ⟨z, 0, none⟩), .int .i32 r] W (Mr w0 W z g (showM t r m)) := by
  have HOF := hide (fun V => rof_is r ((m : Nat) : Int) hr V)
  have HIV := hide hI
  have HR := hide hr
  obtain ⟨R, C, cs, row, col, p, s, wt, bl⟩ := t
  dsimp only at hw
  have hm2 : 1 ≤ m ∧ m ≤ 2 := by omega
  have hCb : 8 ≤ C ∧ C ≤ 200 := hI.hC
  have hcl : col < C := hI.hcol
  obtain ⟨cs1, row1, e1, e2⟩ := feed_col R C cs row 0 p s wt false bl
  have hI0 : Inv ⟨R, C, cs, row, 0, p, s, wt, bl⟩ := ⟨hI.hR, hI.hC, hI.hL, hI.hrow, by show 0 < C; omega, hI.hv, hI.hs⟩
  have HSH := hide (show showM ⟨R, C, cs, row, col, p, s, wt, bl⟩ r m = layM ⟨R, C, cs1, row1, 0, p, s, false, bl⟩ r m from by
    unfold showM
    rw [if_pos (by unfold wrapsB; dsimp only; rw [hw]; rfl)]
    show layM (feedM ⟨R, C, cs, row, 0, p, s, false, bl⟩) r m = _
    rw [e2])
  have HFD := hide (fun (V : World) (H : TrB w0 V z g cap ⟨R, C, cs, row, 0, p, s, wt, bl⟩) => (show Calls Tryd.prog _ _ V (Mr w0 V z g ⟨R, C, cs1, row1, 0, p, s, wt, bl⟩) from by have := rtfeed_any _ H hI0; rw [e1] at this; exact this))
  have hI1 : Inv ⟨R, C, cs1, row1, 0, p, s, wt, bl⟩ := by have := hI0.feed; rw [e1] at this; exact this
  have HI1 := hide hI1
  subst hw
  obtain ⟨-, c1, c2, -, c4, -, -, -, -, -, c10, -⟩ := h.reads
  have bf := fun i => h.b.frozen i
  have H := hide h
  obtain ⟨n, hn⟩ : ∃ n, cs.length = n := ⟨_, rfl⟩
  rw [hn] at c2
  have HN := hide hn
  clear h hI hn hr
  go_enter Tryd.func32, Tryd.ntmps32
  go_wp2_with fail
  refine (HOF.out _).mono ?_; rintro e w1 ⟨rfl, hb1⟩
  have H1 := hide (H.out.low hb1)
  have K1 := hide (K2.of (z := z) (g := g) hb1)
  clear hb1 c1 c2 c4 c10 bf
  obtain ⟨-, c1, c2, -, c4, -, -, -, -, -, c10, -⟩ := H1.out.reads
  have bf := fun i => H1.out.b.frozen i
  go_wp2_with fail
  go_region
  go_wp2_with fail
  obtain ⟨U, hU, HU, KU⟩ := named (R := fun V => TrB w0 V z g cap ⟨R, C, cs, row, 0, p, s, true, bl⟩ ∧ K2 z g W V) ⟨(H1.out.setZ ⟨R, C, cs, row, 0, p, s, true, bl⟩ 4 (.int .i64 0) rfl rfl).low (Below.refl _ _).drew, (K1.out.trans (K2.set _ _ _ _ _)).trans K2.drew⟩
  rw [hU]
  have HU := hide HU
  have KU := hide KU
  clear hU H1 K1 c1 c2 c4 c10 bf H
  refine (HFD.out _ HU.out).mono ?_; rintro e w2 ⟨rfl, g2, cap2, H2, K2', hg2⟩
  have HX := hide H2
  have KX := hide (KU.out.thenG K2' (.inl rfl))
  have HGX := hide (show g2 = g ∨ W.heap.size ≤ g2 by rcases hg2 with e | e; exact .inl e; exact .inr (Nat.le_trans KU.out.size e))
  clear H2 K2' hg2 HU KU
  obtain ⟨n2, hn2⟩ : ∃ n, cs1.length = n := ⟨_, rfl⟩
  have hcm : 0 + m ≤ C := by omega
  have HPU := hide (fun V hV => rput_any (r := r) (m := m) (row := row1) (col := 0) (x := ⟨r, s.w, s.fg, s.bo, s.un, s.iv⟩) HX.out HI1.out hn2 rfl hm HR.out HI1.out.hrow hcm HI1.out.hs V hV)
  dsimp only at HPU
  obtain ⟨L, hL⟩ : ∃ L, putL cs1 (row1 * C + 0) m (inkT r ((m : Nat) : Int) ⟨r, s.w, s.fg, s.bo, s.un, s.iv⟩) = L := ⟨_, rfl⟩
  have hLn : L.length = n2 := by rw [← hL, put_len]; exact hn2
  have HL := hide hL
  have HLN := hide hLn
  rw [hL] at HPU
  clear hL hLn
  go_wp2_with fail
  go_cut [4] (fun v wx => v = .int .i64 ((m : Nat) : Int) ∧ Hid (∃ g3 cap3, TrB w0 wx z g3 cap3 ⟨R, C, L, row1, 0, p, s, true, bl⟩ ∧ K2 z g2 w2 wx ∧ w2.heap.size ≤ g3))
  case first =>
    have hsz := HX.out.b.lt
    obtain ⟨c0, c1, c2, c3, c4, -, c6, c7, c8, c9, c10, -⟩ := HX.out.reads
    rw [hn2] at c2
    have bf := fun i => HX.out.b.frozen i
    have HBD := hide (show Below w2.heap.size w2 w2.drew from (Below.refl _ _).drew)
    have ez : ((0 : Nat) : Int) = 0 := rfl
    rw [ez] at c4 HPU
    clear ez
    refine wp_region_held_drew (S := (fun V => V.cell? ⟨z, 3, none⟩ = some (.int .i64 (row1 : Int)) ∧ V.cell? ⟨z, 4, none⟩ = some (.int .i64 0) ∧ V.cell? ⟨z, 6, none⟩ = some (.int .i64 s.fg) ∧ V.cell? ⟨z, 7, none⟩ = some (.bool s.bo) ∧ V.cell? ⟨z, 8, none⟩ = some (.bool s.un) ∧ V.cell? ⟨z, 9, none⟩ = some (.bool s.iv))) (by kernel_rfl) ?_ (fun hHeld => ?_)
    · exact ⟨c3, c4, c6, c7, c8, c9⟩
    refine wpAnyH_at (i := 0) (v := ?v0) (d := 35) rfl rfl (by kernel_rfl) (by kernel_rfl) (by kernel_rfl) (fun _ _ _ h => h) (Or.inl ⟨by rfl, fun w' hSw => ?hy0⟩) (by assumption) ?rest0
    case hy0 =>
      (try dsimp only at hSw)
      go_simp
      (try with_reducible rfl)
    (try simp only [Act.put, List.setIfInBounds_toArray, List.set_cons_zero, List.set_cons_succ])
    refine wpAnyH_at (i := 1) (v := ?v1) (d := 36) rfl rfl (by kernel_rfl) (by kernel_rfl) (by kernel_rfl) (fun _ _ _ h => h) (Or.inl ⟨by rfl, fun w' hSw => ?hy1⟩) (by assumption) ?rest1
    case hy1 =>
      (try dsimp only at hSw)
      go_simp
      (try with_reducible rfl)
    (try simp only [Act.put, List.setIfInBounds_toArray, List.set_cons_zero, List.set_cons_succ])
    refine wpAnyH_at (i := 2) (v := ?v2) (d := 37) rfl rfl (by kernel_rfl) (by kernel_rfl) (by kernel_rfl) (fun _ _ _ h => h) (Or.inl ⟨by rfl, fun w' hSw => ?hy2⟩) (by assumption) ?rest2
    case hy2 =>
      (try dsimp only at hSw)
      go_simp
      (try with_reducible rfl)
    (try simp only [Act.put, List.setIfInBounds_toArray, List.set_cons_zero, List.set_cons_succ])
    refine wpAnyH_at (i := 3) (v := ?v3) (d := 38) rfl rfl (by kernel_rfl) (by kernel_rfl) (by kernel_rfl) (fun _ _ _ h => h) (Or.inl ⟨by rfl, fun w' hSw => ?hy3⟩) (by assumption) ?rest3
    case hy3 =>
      (try dsimp only at hSw)
      go_simp
      (try with_reducible rfl)
    (try simp only [Act.put, List.setIfInBounds_toArray, List.set_cons_zero, List.set_cons_succ])
    refine wpAnyH_at (i := 5) (v := ?v5) (d := 40) rfl rfl (by kernel_rfl) (by kernel_rfl) (by kernel_rfl) (fun _ _ _ h => h) (Or.inl ⟨by rfl, fun w' hSw => ?hy5⟩) (by assumption) ?rest5
    case hy5 =>
      (try dsimp only at hSw)
      go_simp
      (try with_reducible rfl)
    (try simp only [Act.put, List.setIfInBounds_toArray, List.set_cons_zero, List.set_cons_succ])
    refine wpAnyH_at (i := 6) (v := ?v6) (d := 41) rfl rfl (by kernel_rfl) (by kernel_rfl) (by kernel_rfl) (fun _ _ _ h => h) (Or.inl ⟨by rfl, fun w' hSw => ?hy6⟩) (by assumption) ?rest6
    case hy6 =>
      (try dsimp only at hSw)
      go_simp
      (try with_reducible rfl)
    (try simp only [Act.put, List.setIfInBounds_toArray, List.set_cons_zero, List.set_cons_succ])
    refine wpAnyH_at (i := 7) (v := ?v7) (d := 42) rfl rfl (by kernel_rfl) (by kernel_rfl) (by kernel_rfl) (fun _ _ _ h => h) (Or.inl ⟨by rfl, fun w' hSw => ?hy7⟩) (by assumption) ?rest7
    case hy7 =>
      (try dsimp only at hSw)
      go_simp
      (try with_reducible rfl)
    (try simp only [Act.put, List.setIfInBounds_toArray, List.set_cons_zero, List.set_cons_succ])
    refine wpAnyH_at (i := 8) (v := ?v8) (d := 43) rfl rfl (by kernel_rfl) (by kernel_rfl) (by kernel_rfl) (fun _ _ _ h => h) (Or.inl ⟨by rfl, fun w' hSw => ?hy8⟩) (by assumption) ?rest8
    case hy8 =>
      (try dsimp only at hSw)
      go_simp
      (try with_reducible rfl)
    (try simp only [Act.put, List.setIfInBounds_toArray, List.set_cons_zero, List.set_cons_succ])
    refine wpAnyH_at (i := 9) (v := ?v9) (d := 44) rfl rfl (by kernel_rfl) (by kernel_rfl) (by kernel_rfl) (fun _ _ _ h => h) (Or.inl ⟨by rfl, fun w' hSw => ?hy9⟩) (by assumption) ?rest9
    case hy9 =>
      (try dsimp only at hSw)
      go_simp
      (try with_reducible rfl)
    (try simp only [Act.put, List.setIfInBounds_toArray, List.set_cons_zero, List.set_cons_succ])
    refine wpAnyH_at (i := 10) (v := ?v10) (d := 45) rfl rfl (by kernel_rfl) (by kernel_rfl) (by kernel_rfl) (fun _ _ _ h => h) (Or.inl ⟨by rfl, fun w' hSw => ?hy10⟩) (by assumption) ?rest10
    case hy10 =>
      (try dsimp only at hSw)
      go_simp
      (try with_reducible rfl)
    (try simp only [Act.put, List.setIfInBounds_toArray, List.set_cons_zero, List.set_cons_succ])
    refine wpAnyH_at (i := 11) (v := ?v11) (d := 46) rfl rfl (by kernel_rfl) (by kernel_rfl) (by kernel_rfl) (fun _ _ _ h => h) (Or.inl ⟨by rfl, fun w' hSw => ?hy11⟩) (by assumption) ?rest11
    case hy11 =>
      (try dsimp only at hSw)
      go_simp
      (try with_reducible rfl)
    (try simp only [Act.put, List.setIfInBounds_toArray, List.set_cons_zero, List.set_cons_succ])
    refine wpAnyH_at (i := 12) (v := ?v12) (d := 47) rfl rfl (by kernel_rfl) (by kernel_rfl) (by kernel_rfl) (fun _ _ _ h => h) (Or.inl ⟨by rfl, fun w' hSw => ?hy12⟩) (by assumption) ?rest12
    case hy12 =>
      (try dsimp only at hSw)
      go_simp
      (try with_reducible rfl)
    (try simp only [Act.put, List.setIfInBounds_toArray, List.set_cons_zero, List.set_cons_succ])
    refine wpAnyH_at (i := 13) (v := ?v13) (d := 48) rfl rfl (by kernel_rfl) (by kernel_rfl) (by kernel_rfl) (fun _ _ _ h => h) (Or.inl ⟨by rfl, fun w' hSw => ?hy13⟩) (by assumption) ?rest13
    case hy13 =>
      (try dsimp only at hSw)
      go_simp
      (try with_reducible rfl)
    (try simp only [Act.put, List.setIfInBounds_toArray, List.set_cons_zero, List.set_cons_succ])
    refine wpAnyH_at (i := 14) (v := ?v14) (d := 49) rfl rfl (by kernel_rfl) (by kernel_rfl) (by kernel_rfl) (fun _ _ _ h => h) (Or.inl ⟨by rfl, fun w' hSw => ?hy14⟩) (by assumption) ?rest14
    case hy14 =>
      (try dsimp only at hSw)
      go_simp
      (try with_reducible rfl)
    (try simp only [Act.put, List.setIfInBounds_toArray, List.set_cons_zero, List.set_cons_succ])
    refine wpAnyH_at (i := 15) (v := ?v15) (d := 50) rfl rfl (by kernel_rfl) (by kernel_rfl) (by kernel_rfl) (fun _ _ _ h => h) (Or.inl ⟨by rfl, fun w' hSw => ?hy15⟩) (by assumption) ?rest15
    case hy15 =>
      (try dsimp only at hSw)
      go_simp
      (try with_reducible rfl)
    (try simp only [Act.put, List.setIfInBounds_toArray, List.set_cons_zero, List.set_cons_succ])
    refine wpAnyH_at (i := 16) (v := ?v16) (d := 51) rfl rfl (by kernel_rfl) (by kernel_rfl) (by kernel_rfl) (fun _ _ _ h => h) (Or.inl ⟨by rfl, fun w' hSw => ?hy16⟩) (by assumption) ?rest16
    case hy16 =>
      (try dsimp only at hSw)
      go_simp
      (try with_reducible rfl)
    (try simp only [Act.put, List.setIfInBounds_toArray, List.set_cons_zero, List.set_cons_succ])
    refine wpAnyH_at (i := 17) (v := ?v17) (d := 52) rfl rfl (by kernel_rfl) (by kernel_rfl) (by kernel_rfl) (fun _ _ _ h => h) (Or.inl ⟨by rfl, fun w' hSw => ?hy17⟩) (by assumption) ?rest17
    case hy17 =>
      (try dsimp only at hSw)
      go_simp
      (try with_reducible rfl)
    (try simp only [Act.put, List.setIfInBounds_toArray, List.set_cons_zero, List.set_cons_succ])
    refine wpAnyH_at (i := 18) (v := ?v18) (d := 53) rfl rfl (by kernel_rfl) (by kernel_rfl) (by kernel_rfl) (fun _ _ _ h => h) (Or.inl ⟨by rfl, fun w' hSw => ?hy18⟩) (by assumption) ?rest18
    case hy18 =>
      (try dsimp only at hSw)
      go_simp
      (try with_reducible rfl)
    (try simp only [Act.put, List.setIfInBounds_toArray, List.set_cons_zero, List.set_cons_succ])
    refine wpAnyH_at (i := 19) (v := ?v19) (d := 54) rfl rfl (by kernel_rfl) (by kernel_rfl) (by kernel_rfl) (fun _ _ _ h => h) (Or.inl ⟨by rfl, fun w' hSw => ?hy19⟩) (by assumption) ?rest19
    case hy19 =>
      (try dsimp only at hSw)
      go_simp
      (try with_reducible rfl)
    (try simp only [Act.put, List.setIfInBounds_toArray, List.set_cons_zero, List.set_cons_succ])
    refine wpAnyH_ready (rs := [4]) (by kernel_rfl) (by simp) ?_
    refine AllReadyH.cons rfl (fun K' hK' => ?_) AllReadyH.nil
    go_simp
    refine hK'.out _ _ ?_ (fun hHeld => ?_)
    · exact ⟨c3, c4, c6, c7, c8, c9⟩
    clear hK' K'
    (try simp only [Act.put, List.getElem_toArray, List.getElem_cons_succ, List.getElem_cons_zero, List.setIfInBounds_toArray, List.set_cons_zero, List.set_cons_succ])
    refine wpAnyH_ready (rs := [20]) (by kernel_rfl) (by simp) ?_
    refine AllReadyH.cons rfl (fun K' hK' => ?_) AllReadyH.nil
    go_simp
    refine (HPU.out _ HBD.out).mono ?_; rintro e w3 ⟨v3, rfl, g3, cap3, rfl, hcap3, hown3, hg3, hb3⟩
    have HO3 := hide hown3
    have HB3 := hide hb3
    have HT3 := hide (HX.out.low hb3)
    obtain ⟨d0, d1, d2, d3, d4, -, d6, d7, d8, d9, -⟩ := HT3.out.reads
    rw [hn2] at d2
    rw [show ((0 : Nat) : Int) = 0 from rfl] at d4
    have df := fun i => HT3.out.b.frozen i
    have HLD := hide (HX.out.laid HB3.out HLN.out hcap3 hg3 HO3.out)
    obtain ⟨-, -, -, f3, f4, -, f6, f7, f8, f9, -⟩ := HLD.out.1.reads
    rw [show ((0 : Nat) : Int) = 0 from rfl] at f4
    clear hown3 hb3
    go_wp2_with fail
    refine hK'.out _ _ ?_ (fun hHeld => ?_)
    · exact ⟨d3, d4, d6, d7, d8, d9⟩
    clear hK' K'
    (try simp only [Act.put, List.getElem_toArray, List.getElem_cons_succ, List.getElem_cons_zero, List.setIfInBounds_toArray, List.set_cons_zero, List.set_cons_succ])
    refine wpAnyH_at (i := 21) (v := ?v21) (d := 56) rfl rfl (by kernel_rfl) (by kernel_rfl) (by kernel_rfl) (fun _ _ _ h => h) (Or.inl ⟨by rfl, fun w' hSw => ?hy21⟩) (by assumption) ?rest21
    case hy21 =>
      (try dsimp only at hSw)
      go_simp
      (try with_reducible rfl)
    (try simp only [Act.put, List.setIfInBounds_toArray, List.set_cons_zero, List.set_cons_succ])
    refine wpAnyH_at (i := 22) (v := ?v22) (d := 57) rfl rfl (by kernel_rfl) (by kernel_rfl) (by kernel_rfl) (fun _ _ _ h => h) (Or.inl ⟨by rfl, fun w' hSw => ?hy22⟩) (by assumption) ?rest22
    case hy22 =>
      (try dsimp only at hSw)
      go_simp
      (try with_reducible rfl)
    (try simp only [Act.put, List.setIfInBounds_toArray, List.set_cons_zero, List.set_cons_succ])
    refine wpAnyH_ready (rs := [23]) (by kernel_rfl) (by simp) ?_
    refine AllReadyH.cons rfl (fun K' hK' => ?_) AllReadyH.nil
    go_simp
    refine hK'.out _ _ ?_ (fun hHeld => ?_)
    · exact ⟨f3, f4, f6, f7, f8, f9⟩
    clear hK' K'
    (try simp only [Act.put, List.getElem_toArray, List.getElem_cons_succ, List.getElem_cons_zero, List.setIfInBounds_toArray, List.set_cons_zero, List.set_cons_succ])
    refine wpAnyH_done (by kernel_rfl) ?_ _
    go_wp2_with fail
    go_meet
    exact ⟨rfl, hide ⟨g3, cap3, HLD.out.1, HLD.out.2, hg3⟩⟩
  case rest =>
    obtain ⟨rfl, H9⟩ := hcut
    obtain ⟨g3, cap3, H4, K4, hg3⟩ := H9.out
    have H4 := hide H4
    have K4 := hide (KX.out.thenG K4 (HGX.out))
    have hg4 : g3 = g ∨ W.heap.size ≤ g3 := .inr (Nat.le_trans KX.out.size hg3)
    clear H9 HPU HX KX
    obtain ⟨-, c1, -, -, c4, -, -, -, -, -, c10, -⟩ := H4.out.reads
    have bf := fun i => H4.out.b.frozen i
    have ez : ((0 : Nat) : Int) = 0 := rfl
    rw [ez] at c4
    have HIK := hide (show inkT r ((m : Nat) : Int) ⟨r, s.w, s.fg, s.bo, s.un, s.iv⟩ = inkT r ((m : Nat) : Int) s from rfl)
    rw [HIK.out] at HL
    obtain ⟨Q, hQ⟩ : ∃ q : Nat, (if C ≤ 0 + m then C - 1 else 0 + m) = q := ⟨_, rfl⟩
    have hmn : min ((m : Int)) ((C : Int) - 1) = (Q : Int) := by rw [← hQ]; split <;> omega
    have HLF := hide (lay_form R C cs1 row1 0 p s false bl r m hm Q (decide (C ≤ m)) hQ (decide_eq_decide.2 (by omega)))
    rw [HL.out] at HLF
  
    clear hQ HL
    go_wp2_with fail
    go_region
    obtain ⟨U5, hU5, H5, K5⟩ := named (R := fun V => TrB w0 V z g3 cap3 ⟨R, C, L, row1, 0, p, s, decide (C ≤ m), bl⟩ ∧ K2 z g W V) ⟨(H4.out.setZ ⟨R, C, L, row1, 0, p, s, decide (C ≤ m), bl⟩ 10 (.bool (decide (C ≤ m))) rfl rfl).low (Below.refl _ _).drew, (K4.out.trans (K2.set _ _ _ _ _)).trans K2.drew⟩
    rw [hU5]
    have H5 := hide H5
    have K5 := hide K5
    clear hU5 H4 K4 c1 c4 c10 bf
    obtain ⟨-, c1, -, -, c4, -, -, -, -, -, c10, -⟩ := H5.out.reads
    have bf := fun i => H5.out.b.frozen i
    rw [ez] at c4
    go_wp2_with fail
    go_region
    go_wp2
    go_end0
    rw [HSH.out, HLF.out]
    exact Mr.mk ((H5.out.setZ ⟨R, C, L, row1, Q, p, s, decide (C ≤ m), bl⟩ 4 (.int .i64 (Q : Int)) rfl rfl).low (Below.refl _ _).drew) ((K5.out.trans (K2.set _ _ _ _ _)).trans K2.drew) hg4
set_option maxHeartbeats 4000000 in
theorem rtshow_n1 {w0 W : World} {z g cap : Nat} (t : Tm) (h : TrB w0 W z g cap t) (hI : Inv t) (r : Int) (hr : cells r = ((1 : Nat) : Int)) (hw : t.waits = false) :
    Calls Tryd.prog 32 #[.pointer (some ⟨z, 0, none⟩), .int .i32 r] W (Mr w0 W z g (showM t r 1)) := by
  have HOF := hide (fun V => rof_is r ((1 : Nat) : Int) hr V)
  have HIV := hide hI
  have HR := hide hr
  obtain ⟨R, C, cs, row, col, p, s, wt, bl⟩ := t
  dsimp only at hw
  have hCb : 8 ≤ C ∧ C ≤ 200 := hI.hC
  have hcl : col < C := hI.hcol
  have HSH := hide (show showM ⟨R, C, cs, row, col, p, s, wt, bl⟩ r 1 = layM ⟨R, C, cs, row, col, p, s, wt, bl⟩ r 1 from by
    unfold showM
    rw [if_neg (by unfold wrapsB; dsimp only; rw [hw]; simp)])
  subst hw
  obtain ⟨-, c1, c2, -, c4, -, -, -, -, -, c10, -⟩ := h.reads
  have bf := fun i => h.b.frozen i
  have H := hide h
  obtain ⟨n, hn⟩ : ∃ n, cs.length = n := ⟨_, rfl⟩
  rw [hn] at c2
  have HN := hide hn
  clear h hI hn hr
  go_enter Tryd.func32, Tryd.ntmps32
  go_wp2_with fail
  refine (HOF.out _).mono ?_; rintro e w1 ⟨rfl, hb1⟩
  have H1 := hide (H.out.low hb1)
  have K1 := hide (K2.of (z := z) (g := g) hb1)
  clear hb1 c1 c2 c4 c10 bf
  obtain ⟨-, c1, c2, -, c4, -, -, -, -, -, c10, -⟩ := H1.out.reads
  have bf := fun i => H1.out.b.frozen i
  go_wp2_with fail
  go_region
  have HX := hide (H1.out.low (Below.refl _ _).drew)
  have KX := hide (K1.out.trans K2.drew)
  obtain ⟨w2, hw2⟩ : ∃ V, w1.drew = V := ⟨_, rfl⟩
  rw [hw2] at HX KX
  (try rw [hw2])
  have HGX := hide (show g = g ∨ W.heap.size ≤ g from .inl rfl)
  clear hw2 H1 K1 c1 c2 c4 c10 bf H
  have hcm : col + 1 ≤ C := by omega
  have HPU := hide (fun V hV => rput_any (r := r) (m := 1) (row := row) (col := col) (x := ⟨r, s.w, s.fg, s.bo, s.un, s.iv⟩) HX.out HIV.out HN.out rfl (.inl rfl) HR.out HIV.out.hrow hcm HIV.out.hs V hV)
  dsimp only at HPU
  obtain ⟨L, hL⟩ : ∃ L, putL cs (row * C + col) 1 (inkT r ((1 : Nat) : Int) ⟨r, s.w, s.fg, s.bo, s.un, s.iv⟩) = L := ⟨_, rfl⟩
  have hLn : L.length = n := by rw [← hL, put_len]; exact HN.out
  have HL := hide hL
  have HLN := hide hLn
  rw [hL] at HPU
  clear hL hLn
  go_wp2_with fail
  go_cut [4] (fun v wx => v = .int .i64 ((1 : Nat) : Int) ∧ Hid (∃ g3 cap3, TrB w0 wx z g3 cap3 ⟨R, C, L, row, col, p, s, false, bl⟩ ∧ K2 z g w2 wx ∧ w2.heap.size ≤ g3))
  case first =>
    have hsz := HX.out.b.lt
    obtain ⟨c0, c1, c2, c3, c4, -, c6, c7, c8, c9, c10, -⟩ := HX.out.reads
    rw [HN.out] at c2
    have bf := fun i => HX.out.b.frozen i
    have HBD := hide (show Below w2.heap.size w2 w2.drew from (Below.refl _ _).drew)
    refine wp_region_held_drew (S := (fun V => V.cell? ⟨z, 3, none⟩ = some (.int .i64 (row : Int)) ∧ V.cell? ⟨z, 4, none⟩ = some (.int .i64 (col : Int)) ∧ V.cell? ⟨z, 6, none⟩ = some (.int .i64 s.fg) ∧ V.cell? ⟨z, 7, none⟩ = some (.bool s.bo) ∧ V.cell? ⟨z, 8, none⟩ = some (.bool s.un) ∧ V.cell? ⟨z, 9, none⟩ = some (.bool s.iv))) (by kernel_rfl) ?_ (fun hHeld => ?_)
    · exact ⟨c3, c4, c6, c7, c8, c9⟩
    refine wpAnyH_at (i := 0) (v := ?v0) (d := 35) rfl rfl (by kernel_rfl) (by kernel_rfl) (by kernel_rfl) (fun _ _ _ h => h) (Or.inl ⟨by rfl, fun w' hSw => ?hy0⟩) (by assumption) ?rest0
    case hy0 =>
      (try dsimp only at hSw)
      go_simp
      (try with_reducible rfl)
    (try simp only [Act.put, List.setIfInBounds_toArray, List.set_cons_zero, List.set_cons_succ])
    refine wpAnyH_at (i := 1) (v := ?v1) (d := 36) rfl rfl (by kernel_rfl) (by kernel_rfl) (by kernel_rfl) (fun _ _ _ h => h) (Or.inl ⟨by rfl, fun w' hSw => ?hy1⟩) (by assumption) ?rest1
    case hy1 =>
      (try dsimp only at hSw)
      go_simp
      (try with_reducible rfl)
    (try simp only [Act.put, List.setIfInBounds_toArray, List.set_cons_zero, List.set_cons_succ])
    refine wpAnyH_at (i := 2) (v := ?v2) (d := 37) rfl rfl (by kernel_rfl) (by kernel_rfl) (by kernel_rfl) (fun _ _ _ h => h) (Or.inl ⟨by rfl, fun w' hSw => ?hy2⟩) (by assumption) ?rest2
    case hy2 =>
      (try dsimp only at hSw)
      go_simp
      (try with_reducible rfl)
    (try simp only [Act.put, List.setIfInBounds_toArray, List.set_cons_zero, List.set_cons_succ])
    refine wpAnyH_at (i := 3) (v := ?v3) (d := 38) rfl rfl (by kernel_rfl) (by kernel_rfl) (by kernel_rfl) (fun _ _ _ h => h) (Or.inl ⟨by rfl, fun w' hSw => ?hy3⟩) (by assumption) ?rest3
    case hy3 =>
      (try dsimp only at hSw)
      go_simp
      (try with_reducible rfl)
    (try simp only [Act.put, List.setIfInBounds_toArray, List.set_cons_zero, List.set_cons_succ])
    refine wpAnyH_at (i := 5) (v := ?v5) (d := 40) rfl rfl (by kernel_rfl) (by kernel_rfl) (by kernel_rfl) (fun _ _ _ h => h) (Or.inl ⟨by rfl, fun w' hSw => ?hy5⟩) (by assumption) ?rest5
    case hy5 =>
      (try dsimp only at hSw)
      go_simp
      (try with_reducible rfl)
    (try simp only [Act.put, List.setIfInBounds_toArray, List.set_cons_zero, List.set_cons_succ])
    refine wpAnyH_at (i := 6) (v := ?v6) (d := 41) rfl rfl (by kernel_rfl) (by kernel_rfl) (by kernel_rfl) (fun _ _ _ h => h) (Or.inl ⟨by rfl, fun w' hSw => ?hy6⟩) (by assumption) ?rest6
    case hy6 =>
      (try dsimp only at hSw)
      go_simp
      (try with_reducible rfl)
    (try simp only [Act.put, List.setIfInBounds_toArray, List.set_cons_zero, List.set_cons_succ])
    refine wpAnyH_at (i := 7) (v := ?v7) (d := 42) rfl rfl (by kernel_rfl) (by kernel_rfl) (by kernel_rfl) (fun _ _ _ h => h) (Or.inl ⟨by rfl, fun w' hSw => ?hy7⟩) (by assumption) ?rest7
    case hy7 =>
      (try dsimp only at hSw)
      go_simp
      (try with_reducible rfl)
    (try simp only [Act.put, List.setIfInBounds_toArray, List.set_cons_zero, List.set_cons_succ])
    refine wpAnyH_at (i := 8) (v := ?v8) (d := 43) rfl rfl (by kernel_rfl) (by kernel_rfl) (by kernel_rfl) (fun _ _ _ h => h) (Or.inl ⟨by rfl, fun w' hSw => ?hy8⟩) (by assumption) ?rest8
    case hy8 =>
      (try dsimp only at hSw)
      go_simp
      (try with_reducible rfl)
    (try simp only [Act.put, List.setIfInBounds_toArray, List.set_cons_zero, List.set_cons_succ])
    refine wpAnyH_at (i := 9) (v := ?v9) (d := 44) rfl rfl (by kernel_rfl) (by kernel_rfl) (by kernel_rfl) (fun _ _ _ h => h) (Or.inl ⟨by rfl, fun w' hSw => ?hy9⟩) (by assumption) ?rest9
    case hy9 =>
      (try dsimp only at hSw)
      go_simp
      (try with_reducible rfl)
    (try simp only [Act.put, List.setIfInBounds_toArray, List.set_cons_zero, List.set_cons_succ])
    refine wpAnyH_at (i := 10) (v := ?v10) (d := 45) rfl rfl (by kernel_rfl) (by kernel_rfl) (by kernel_rfl) (fun _ _ _ h => h) (Or.inl ⟨by rfl, fun w' hSw => ?hy10⟩) (by assumption) ?rest10
    case hy10 =>
      (try dsimp only at hSw)
      go_simp
      (try with_reducible rfl)
    (try simp only [Act.put, List.setIfInBounds_toArray, List.set_cons_zero, List.set_cons_succ])
    refine wpAnyH_at (i := 11) (v := ?v11) (d := 46) rfl rfl (by kernel_rfl) (by kernel_rfl) (by kernel_rfl) (fun _ _ _ h => h) (Or.inl ⟨by rfl, fun w' hSw => ?hy11⟩) (by assumption) ?rest11
    case hy11 =>
      (try dsimp only at hSw)
      go_simp
      (try with_reducible rfl)
    (try simp only [Act.put, List.setIfInBounds_toArray, List.set_cons_zero, List.set_cons_succ])
    refine wpAnyH_at (i := 12) (v := ?v12) (d := 47) rfl rfl (by kernel_rfl) (by kernel_rfl) (by kernel_rfl) (fun _ _ _ h => h) (Or.inl ⟨by rfl, fun w' hSw => ?hy12⟩) (by assumption) ?rest12
    case hy12 =>
      (try dsimp only at hSw)
      go_simp
      (try with_reducible rfl)
    (try simp only [Act.put, List.setIfInBounds_toArray, List.set_cons_zero, List.set_cons_succ])
    refine wpAnyH_at (i := 13) (v := ?v13) (d := 48) rfl rfl (by kernel_rfl) (by kernel_rfl) (by kernel_rfl) (fun _ _ _ h => h) (Or.inl ⟨by rfl, fun w' hSw => ?hy13⟩) (by assumption) ?rest13
    case hy13 =>
      (try dsimp only at hSw)
      go_simp
      (try with_reducible rfl)
    (try simp only [Act.put, List.setIfInBounds_toArray, List.set_cons_zero, List.set_cons_succ])
    refine wpAnyH_at (i := 14) (v := ?v14) (d := 49) rfl rfl (by kernel_rfl) (by kernel_rfl) (by kernel_rfl) (fun _ _ _ h => h) (Or.inl ⟨by rfl, fun w' hSw => ?hy14⟩) (by assumption) ?rest14
    case hy14 =>
      (try dsimp only at hSw)
      go_simp
      (try with_reducible rfl)
    (try simp only [Act.put, List.setIfInBounds_toArray, List.set_cons_zero, List.set_cons_succ])
    refine wpAnyH_at (i := 15) (v := ?v15) (d := 50) rfl rfl (by kernel_rfl) (by kernel_rfl) (by kernel_rfl) (fun _ _ _ h => h) (Or.inl ⟨by rfl, fun w' hSw => ?hy15⟩) (by assumption) ?rest15
    case hy15 =>
      (try dsimp only at hSw)
      go_simp
      (try with_reducible rfl)
    (try simp only [Act.put, List.setIfInBounds_toArray, List.set_cons_zero, List.set_cons_succ])
    refine wpAnyH_at (i := 16) (v := ?v16) (d := 51) rfl rfl (by kernel_rfl) (by kernel_rfl) (by kernel_rfl) (fun _ _ _ h => h) (Or.inl ⟨by rfl, fun w' hSw => ?hy16⟩) (by assumption) ?rest16
    case hy16 =>
      (try dsimp only at hSw)
      go_simp
      (try with_reducible rfl)
    (try simp only [Act.put, List.setIfInBounds_toArray, List.set_cons_zero, List.set_cons_succ])
    refine wpAnyH_at (i := 17) (v := ?v17) (d := 52) rfl rfl (by kernel_rfl) (by kernel_rfl) (by kernel_rfl) (fun _ _ _ h => h) (Or.inl ⟨by rfl, fun w' hSw => ?hy17⟩) (by assumption) ?rest17
    case hy17 =>
      (try dsimp only at hSw)
      go_simp
      (try with_reducible rfl)
    (try simp only [Act.put, List.setIfInBounds_toArray, List.set_cons_zero, List.set_cons_succ])
    refine wpAnyH_at (i := 18) (v := ?v18) (d := 53) rfl rfl (by kernel_rfl) (by kernel_rfl) (by kernel_rfl) (fun _ _ _ h => h) (Or.inl ⟨by rfl, fun w' hSw => ?hy18⟩) (by assumption) ?rest18
    case hy18 =>
      (try dsimp only at hSw)
      go_simp
      (try with_reducible rfl)
    (try simp only [Act.put, List.setIfInBounds_toArray, List.set_cons_zero, List.set_cons_succ])
    refine wpAnyH_at (i := 19) (v := ?v19) (d := 54) rfl rfl (by kernel_rfl) (by kernel_rfl) (by kernel_rfl) (fun _ _ _ h => h) (Or.inl ⟨by rfl, fun w' hSw => ?hy19⟩) (by assumption) ?rest19
    case hy19 =>
      (try dsimp only at hSw)
      go_simp
      (try with_reducible rfl)
    (try simp only [Act.put, List.setIfInBounds_toArray, List.set_cons_zero, List.set_cons_succ])
    refine wpAnyH_ready (rs := [4]) (by kernel_rfl) (by simp) ?_
    refine AllReadyH.cons rfl (fun K' hK' => ?_) AllReadyH.nil
    go_simp
    refine hK'.out _ _ ?_ (fun hHeld => ?_)
    · exact ⟨c3, c4, c6, c7, c8, c9⟩
    clear hK' K'
    (try simp only [Act.put, List.getElem_toArray, List.getElem_cons_succ, List.getElem_cons_zero, List.setIfInBounds_toArray, List.set_cons_zero, List.set_cons_succ])
    refine wpAnyH_ready (rs := [20]) (by kernel_rfl) (by simp) ?_
    refine AllReadyH.cons rfl (fun K' hK' => ?_) AllReadyH.nil
    go_simp
    refine (HPU.out _ HBD.out).mono ?_; rintro e w3 ⟨v3, rfl, g3, cap3, rfl, hcap3, hown3, hg3, hb3⟩
    have HO3 := hide hown3
    have HB3 := hide hb3
    have HT3 := hide (HX.out.low hb3)
    obtain ⟨d0, d1, d2, d3, d4, -, d6, d7, d8, d9, -⟩ := HT3.out.reads
    rw [HN.out] at d2
    have df := fun i => HT3.out.b.frozen i
    have HLD := hide (HX.out.laid HB3.out HLN.out hcap3 hg3 HO3.out)
    obtain ⟨-, -, -, f3, f4, -, f6, f7, f8, f9, -⟩ := HLD.out.1.reads
    clear hown3 hb3
    go_wp2_with fail
    refine hK'.out _ _ ?_ (fun hHeld => ?_)
    · exact ⟨d3, d4, d6, d7, d8, d9⟩
    clear hK' K'
    (try simp only [Act.put, List.getElem_toArray, List.getElem_cons_succ, List.getElem_cons_zero, List.setIfInBounds_toArray, List.set_cons_zero, List.set_cons_succ])
    refine wpAnyH_at (i := 21) (v := ?v21) (d := 56) rfl rfl (by kernel_rfl) (by kernel_rfl) (by kernel_rfl) (fun _ _ _ h => h) (Or.inl ⟨by rfl, fun w' hSw => ?hy21⟩) (by assumption) ?rest21
    case hy21 =>
      (try dsimp only at hSw)
      go_simp
      (try with_reducible rfl)
    (try simp only [Act.put, List.setIfInBounds_toArray, List.set_cons_zero, List.set_cons_succ])
    refine wpAnyH_at (i := 22) (v := ?v22) (d := 57) rfl rfl (by kernel_rfl) (by kernel_rfl) (by kernel_rfl) (fun _ _ _ h => h) (Or.inl ⟨by rfl, fun w' hSw => ?hy22⟩) (by assumption) ?rest22
    case hy22 =>
      (try dsimp only at hSw)
      go_simp
      (try with_reducible rfl)
    (try simp only [Act.put, List.setIfInBounds_toArray, List.set_cons_zero, List.set_cons_succ])
    refine wpAnyH_ready (rs := [23]) (by kernel_rfl) (by simp) ?_
    refine AllReadyH.cons rfl (fun K' hK' => ?_) AllReadyH.nil
    go_simp
    refine hK'.out _ _ ?_ (fun hHeld => ?_)
    · exact ⟨f3, f4, f6, f7, f8, f9⟩
    clear hK' K'
    (try simp only [Act.put, List.getElem_toArray, List.getElem_cons_succ, List.getElem_cons_zero, List.setIfInBounds_toArray, List.set_cons_zero, List.set_cons_succ])
    refine wpAnyH_done (by kernel_rfl) ?_ _
    go_wp2_with fail
    go_meet
    exact ⟨rfl, hide ⟨g3, cap3, HLD.out.1, HLD.out.2, hg3⟩⟩
  case rest =>
    obtain ⟨rfl, H9⟩ := hcut
    obtain ⟨g3, cap3, H4, K4, hg3⟩ := H9.out
    have H4 := hide H4
    have K4 := hide (KX.out.thenG K4 (.inl rfl))
    have hg4 : g3 = g ∨ W.heap.size ≤ g3 := .inr (Nat.le_trans KX.out.size hg3)
    clear H9 HPU HX KX
    obtain ⟨-, c1, -, -, c4, -, -, -, -, -, c10, -⟩ := H4.out.reads
    have bf := fun i => H4.out.b.frozen i
    have HIK := hide (show inkT r ((1 : Nat) : Int) ⟨r, s.w, s.fg, s.bo, s.un, s.iv⟩ = inkT r ((1 : Nat) : Int) s from rfl)
    rw [HIK.out] at HL
    obtain ⟨Q, hQ⟩ : ∃ q : Nat, (if C ≤ col + 1 then C - 1 else col + 1) = q := ⟨_, rfl⟩
    have hmn : min ((col : Int) + 1) ((C : Int) - 1) = (Q : Int) := by rw [← hQ]; split <;> omega
    have HLF := hide (lay_form R C cs row col p s false bl r 1 (.inl rfl) Q (decide ((C : Int) ≤ (col : Int) + 1)) hQ (decide_eq_decide.2 (by omega)))
    rw [HL.out] at HLF
    clear hQ HL
    go_wp2_with fail
    go_region
    obtain ⟨U5, hU5, H5, K5⟩ := named (R := fun V => TrB w0 V z g3 cap3 ⟨R, C, L, row, col, p, s, decide ((C : Int) ≤ (col : Int) + 1), bl⟩ ∧ K2 z g W V) ⟨(H4.out.setZ ⟨R, C, L, row, col, p, s, decide ((C : Int) ≤ (col : Int) + 1), bl⟩ 10 (.bool (decide ((C : Int) ≤ (col : Int) + 1))) rfl rfl).low (Below.refl _ _).drew, (K4.out.trans (K2.set _ _ _ _ _)).trans K2.drew⟩
    rw [hU5]
    have H5 := hide H5
    have K5 := hide K5
    clear hU5 H4 K4 c1 c4 c10 bf
    obtain ⟨-, c1, -, -, c4, -, -, -, -, -, c10, -⟩ := H5.out.reads
    have bf := fun i => H5.out.b.frozen i
    go_wp2_with fail
    go_region
    go_wp2
    go_end0
    rw [HSH.out, HLF.out]
    exact Mr.mk ((H5.out.setZ ⟨R, C, L, row, Q, p, s, decide ((C : Int) ≤ (col : Int) + 1), bl⟩ 4 (.int .i64 (Q : Int)) rfl rfl).low (Below.refl _ _).drew) ((K5.out.trans (K2.set _ _ _ _ _)).trans K2.drew) hg4
set_option maxHeartbeats 4000000 in
theorem rtshow_n2 {w0 W : World} {z g cap : Nat} (t : Tm) (h : TrB w0 W z g cap t) (hI : Inv t) (r : Int) (hr : cells r = ((2 : Nat) : Int)) (hw : t.waits = false) (hc : ¬ t.col + 1 = t.cols) :
    Calls Tryd.prog 32 #[.pointer (some ⟨z, 0, none⟩), .int .i32 r] W (Mr w0 W z g (showM t r 2)) := by
  have HOF := hide (fun V => rof_is r ((2 : Nat) : Int) hr V)
  have HIV := hide hI
  have HR := hide hr
  obtain ⟨R, C, cs, row, col, p, s, wt, bl⟩ := t
  dsimp only at hw hc
  have hCb : 8 ≤ C ∧ C ≤ 200 := hI.hC
  have hcl : col < C := hI.hcol
  have HSH := hide (show showM ⟨R, C, cs, row, col, p, s, wt, bl⟩ r 2 = layM ⟨R, C, cs, row, col, p, s, wt, bl⟩ r 2 from by
    unfold showM
    rw [if_neg (by unfold wrapsB; dsimp only; rw [hw]; simp; omega)])
  subst hw
  obtain ⟨-, c1, c2, -, c4, -, -, -, -, -, c10, -⟩ := h.reads
  have bf := fun i => h.b.frozen i
  have H := hide h
  obtain ⟨n, hn⟩ : ∃ n, cs.length = n := ⟨_, rfl⟩
  rw [hn] at c2
  have HN := hide hn
  have hcb : ((col : Int) + 1 == (C : Int)) = false := by rw [beq_eq_false_iff_ne]; omega
  have hcb2 : ((col : Int) == (C : Int) - 1) = false := by rw [beq_eq_false_iff_ne]; omega
  clear h hI hn hr
  go_enter Tryd.func32, Tryd.ntmps32
  go_wp2_with fail
  refine (HOF.out _).mono ?_; rintro e w1 ⟨rfl, hb1⟩
  have H1 := hide (H.out.low hb1)
  have K1 := hide (K2.of (z := z) (g := g) hb1)
  clear hb1 c1 c2 c4 c10 bf
  obtain ⟨-, c1, c2, -, c4, -, -, -, -, -, c10, -⟩ := H1.out.reads
  have bf := fun i => H1.out.b.frozen i
  go_wp2_with fail
  go_region
  have HX := hide (H1.out.low (Below.refl _ _).drew)
  have KX := hide (K1.out.trans K2.drew)
  obtain ⟨w2, hw2⟩ : ∃ V, w1.drew = V := ⟨_, rfl⟩
  rw [hw2] at HX KX
  (try rw [hw2])
  have HGX := hide (show g = g ∨ W.heap.size ≤ g from .inl rfl)
  clear hw2 H1 K1 c1 c2 c4 c10 bf H
  have hcm : col + 2 ≤ C := by omega
  have HPU := hide (fun V hV => rput_any (r := r) (m := 2) (row := row) (col := col) (x := ⟨r, s.w, s.fg, s.bo, s.un, s.iv⟩) HX.out HIV.out HN.out rfl (.inr rfl) HR.out HIV.out.hrow hcm HIV.out.hs V hV)
  dsimp only at HPU
  obtain ⟨L, hL⟩ : ∃ L, putL cs (row * C + col) 2 (inkT r ((2 : Nat) : Int) ⟨r, s.w, s.fg, s.bo, s.un, s.iv⟩) = L := ⟨_, rfl⟩
  have hLn : L.length = n := by rw [← hL, put_len]; exact HN.out
  have HL := hide hL
  have HLN := hide hLn
  rw [hL] at HPU
  clear hL hLn
  go_wp2_with fail
  go_cut [4] (fun v wx => v = .int .i64 ((2 : Nat) : Int) ∧ Hid (∃ g3 cap3, TrB w0 wx z g3 cap3 ⟨R, C, L, row, col, p, s, false, bl⟩ ∧ K2 z g w2 wx ∧ w2.heap.size ≤ g3))
  case first =>
    have hsz := HX.out.b.lt
    obtain ⟨c0, c1, c2, c3, c4, -, c6, c7, c8, c9, c10, -⟩ := HX.out.reads
    rw [HN.out] at c2
    have bf := fun i => HX.out.b.frozen i
    have HBD := hide (show Below w2.heap.size w2 w2.drew from (Below.refl _ _).drew)
    refine wp_region_held_drew (S := (fun V => V.cell? ⟨z, 3, none⟩ = some (.int .i64 (row : Int)) ∧ V.cell? ⟨z, 4, none⟩ = some (.int .i64 (col : Int)) ∧ V.cell? ⟨z, 6, none⟩ = some (.int .i64 s.fg) ∧ V.cell? ⟨z, 7, none⟩ = some (.bool s.bo) ∧ V.cell? ⟨z, 8, none⟩ = some (.bool s.un) ∧ V.cell? ⟨z, 9, none⟩ = some (.bool s.iv))) (by kernel_rfl) ?_ (fun hHeld => ?_)
    · exact ⟨c3, c4, c6, c7, c8, c9⟩
    refine wpAnyH_at (i := 0) (v := ?v0) (d := 35) rfl rfl (by kernel_rfl) (by kernel_rfl) (by kernel_rfl) (fun _ _ _ h => h) (Or.inl ⟨by rfl, fun w' hSw => ?hy0⟩) (by assumption) ?rest0
    case hy0 =>
      (try dsimp only at hSw)
      go_simp
      (try with_reducible rfl)
    (try simp only [Act.put, List.setIfInBounds_toArray, List.set_cons_zero, List.set_cons_succ])
    refine wpAnyH_at (i := 1) (v := ?v1) (d := 36) rfl rfl (by kernel_rfl) (by kernel_rfl) (by kernel_rfl) (fun _ _ _ h => h) (Or.inl ⟨by rfl, fun w' hSw => ?hy1⟩) (by assumption) ?rest1
    case hy1 =>
      (try dsimp only at hSw)
      go_simp
      (try with_reducible rfl)
    (try simp only [Act.put, List.setIfInBounds_toArray, List.set_cons_zero, List.set_cons_succ])
    refine wpAnyH_at (i := 2) (v := ?v2) (d := 37) rfl rfl (by kernel_rfl) (by kernel_rfl) (by kernel_rfl) (fun _ _ _ h => h) (Or.inl ⟨by rfl, fun w' hSw => ?hy2⟩) (by assumption) ?rest2
    case hy2 =>
      (try dsimp only at hSw)
      go_simp
      (try with_reducible rfl)
    (try simp only [Act.put, List.setIfInBounds_toArray, List.set_cons_zero, List.set_cons_succ])
    refine wpAnyH_at (i := 3) (v := ?v3) (d := 38) rfl rfl (by kernel_rfl) (by kernel_rfl) (by kernel_rfl) (fun _ _ _ h => h) (Or.inl ⟨by rfl, fun w' hSw => ?hy3⟩) (by assumption) ?rest3
    case hy3 =>
      (try dsimp only at hSw)
      go_simp
      (try with_reducible rfl)
    (try simp only [Act.put, List.setIfInBounds_toArray, List.set_cons_zero, List.set_cons_succ])
    refine wpAnyH_at (i := 5) (v := ?v5) (d := 40) rfl rfl (by kernel_rfl) (by kernel_rfl) (by kernel_rfl) (fun _ _ _ h => h) (Or.inl ⟨by rfl, fun w' hSw => ?hy5⟩) (by assumption) ?rest5
    case hy5 =>
      (try dsimp only at hSw)
      go_simp
      (try with_reducible rfl)
    (try simp only [Act.put, List.setIfInBounds_toArray, List.set_cons_zero, List.set_cons_succ])
    refine wpAnyH_at (i := 6) (v := ?v6) (d := 41) rfl rfl (by kernel_rfl) (by kernel_rfl) (by kernel_rfl) (fun _ _ _ h => h) (Or.inl ⟨by rfl, fun w' hSw => ?hy6⟩) (by assumption) ?rest6
    case hy6 =>
      (try dsimp only at hSw)
      go_simp
      (try with_reducible rfl)
    (try simp only [Act.put, List.setIfInBounds_toArray, List.set_cons_zero, List.set_cons_succ])
    refine wpAnyH_at (i := 7) (v := ?v7) (d := 42) rfl rfl (by kernel_rfl) (by kernel_rfl) (by kernel_rfl) (fun _ _ _ h => h) (Or.inl ⟨by rfl, fun w' hSw => ?hy7⟩) (by assumption) ?rest7
    case hy7 =>
      (try dsimp only at hSw)
      go_simp
      (try with_reducible rfl)
    (try simp only [Act.put, List.setIfInBounds_toArray, List.set_cons_zero, List.set_cons_succ])
    refine wpAnyH_at (i := 8) (v := ?v8) (d := 43) rfl rfl (by kernel_rfl) (by kernel_rfl) (by kernel_rfl) (fun _ _ _ h => h) (Or.inl ⟨by rfl, fun w' hSw => ?hy8⟩) (by assumption) ?rest8
    case hy8 =>
      (try dsimp only at hSw)
      go_simp
      (try with_reducible rfl)
    (try simp only [Act.put, List.setIfInBounds_toArray, List.set_cons_zero, List.set_cons_succ])
    refine wpAnyH_at (i := 9) (v := ?v9) (d := 44) rfl rfl (by kernel_rfl) (by kernel_rfl) (by kernel_rfl) (fun _ _ _ h => h) (Or.inl ⟨by rfl, fun w' hSw => ?hy9⟩) (by assumption) ?rest9
    case hy9 =>
      (try dsimp only at hSw)
      go_simp
      (try with_reducible rfl)
    (try simp only [Act.put, List.setIfInBounds_toArray, List.set_cons_zero, List.set_cons_succ])
    refine wpAnyH_at (i := 10) (v := ?v10) (d := 45) rfl rfl (by kernel_rfl) (by kernel_rfl) (by kernel_rfl) (fun _ _ _ h => h) (Or.inl ⟨by rfl, fun w' hSw => ?hy10⟩) (by assumption) ?rest10
    case hy10 =>
      (try dsimp only at hSw)
      go_simp
      (try with_reducible rfl)
    (try simp only [Act.put, List.setIfInBounds_toArray, List.set_cons_zero, List.set_cons_succ])
    refine wpAnyH_at (i := 11) (v := ?v11) (d := 46) rfl rfl (by kernel_rfl) (by kernel_rfl) (by kernel_rfl) (fun _ _ _ h => h) (Or.inl ⟨by rfl, fun w' hSw => ?hy11⟩) (by assumption) ?rest11
    case hy11 =>
      (try dsimp only at hSw)
      go_simp
      (try with_reducible rfl)
    (try simp only [Act.put, List.setIfInBounds_toArray, List.set_cons_zero, List.set_cons_succ])
    refine wpAnyH_at (i := 12) (v := ?v12) (d := 47) rfl rfl (by kernel_rfl) (by kernel_rfl) (by kernel_rfl) (fun _ _ _ h => h) (Or.inl ⟨by rfl, fun w' hSw => ?hy12⟩) (by assumption) ?rest12
    case hy12 =>
      (try dsimp only at hSw)
      go_simp
      (try with_reducible rfl)
    (try simp only [Act.put, List.setIfInBounds_toArray, List.set_cons_zero, List.set_cons_succ])
    refine wpAnyH_at (i := 13) (v := ?v13) (d := 48) rfl rfl (by kernel_rfl) (by kernel_rfl) (by kernel_rfl) (fun _ _ _ h => h) (Or.inl ⟨by rfl, fun w' hSw => ?hy13⟩) (by assumption) ?rest13
    case hy13 =>
      (try dsimp only at hSw)
      go_simp
      (try with_reducible rfl)
    (try simp only [Act.put, List.setIfInBounds_toArray, List.set_cons_zero, List.set_cons_succ])
    refine wpAnyH_at (i := 14) (v := ?v14) (d := 49) rfl rfl (by kernel_rfl) (by kernel_rfl) (by kernel_rfl) (fun _ _ _ h => h) (Or.inl ⟨by rfl, fun w' hSw => ?hy14⟩) (by assumption) ?rest14
    case hy14 =>
      (try dsimp only at hSw)
      go_simp
      (try with_reducible rfl)
    (try simp only [Act.put, List.setIfInBounds_toArray, List.set_cons_zero, List.set_cons_succ])
    refine wpAnyH_at (i := 15) (v := ?v15) (d := 50) rfl rfl (by kernel_rfl) (by kernel_rfl) (by kernel_rfl) (fun _ _ _ h => h) (Or.inl ⟨by rfl, fun w' hSw => ?hy15⟩) (by assumption) ?rest15
    case hy15 =>
      (try dsimp only at hSw)
      go_simp
      (try with_reducible rfl)
    (try simp only [Act.put, List.setIfInBounds_toArray, List.set_cons_zero, List.set_cons_succ])
    refine wpAnyH_at (i := 16) (v := ?v16) (d := 51) rfl rfl (by kernel_rfl) (by kernel_rfl) (by kernel_rfl) (fun _ _ _ h => h) (Or.inl ⟨by rfl, fun w' hSw => ?hy16⟩) (by assumption) ?rest16
    case hy16 =>
      (try dsimp only at hSw)
      go_simp
      (try with_reducible rfl)
    (try simp only [Act.put, List.setIfInBounds_toArray, List.set_cons_zero, List.set_cons_succ])
    refine wpAnyH_at (i := 17) (v := ?v17) (d := 52) rfl rfl (by kernel_rfl) (by kernel_rfl) (by kernel_rfl) (fun _ _ _ h => h) (Or.inl ⟨by rfl, fun w' hSw => ?hy17⟩) (by assumption) ?rest17
    case hy17 =>
      (try dsimp only at hSw)
      go_simp
      (try with_reducible rfl)
    (try simp only [Act.put, List.setIfInBounds_toArray, List.set_cons_zero, List.set_cons_succ])
    refine wpAnyH_at (i := 18) (v := ?v18) (d := 53) rfl rfl (by kernel_rfl) (by kernel_rfl) (by kernel_rfl) (fun _ _ _ h => h) (Or.inl ⟨by rfl, fun w' hSw => ?hy18⟩) (by assumption) ?rest18
    case hy18 =>
      (try dsimp only at hSw)
      go_simp
      (try with_reducible rfl)
    (try simp only [Act.put, List.setIfInBounds_toArray, List.set_cons_zero, List.set_cons_succ])
    refine wpAnyH_at (i := 19) (v := ?v19) (d := 54) rfl rfl (by kernel_rfl) (by kernel_rfl) (by kernel_rfl) (fun _ _ _ h => h) (Or.inl ⟨by rfl, fun w' hSw => ?hy19⟩) (by assumption) ?rest19
    case hy19 =>
      (try dsimp only at hSw)
      go_simp
      (try with_reducible rfl)
    (try simp only [Act.put, List.setIfInBounds_toArray, List.set_cons_zero, List.set_cons_succ])
    refine wpAnyH_ready (rs := [4]) (by kernel_rfl) (by simp) ?_
    refine AllReadyH.cons rfl (fun K' hK' => ?_) AllReadyH.nil
    go_simp
    refine hK'.out _ _ ?_ (fun hHeld => ?_)
    · exact ⟨c3, c4, c6, c7, c8, c9⟩
    clear hK' K'
    (try simp only [Act.put, List.getElem_toArray, List.getElem_cons_succ, List.getElem_cons_zero, List.setIfInBounds_toArray, List.set_cons_zero, List.set_cons_succ])
    refine wpAnyH_ready (rs := [20]) (by kernel_rfl) (by simp) ?_
    refine AllReadyH.cons rfl (fun K' hK' => ?_) AllReadyH.nil
    go_simp
    refine (HPU.out _ HBD.out).mono ?_; rintro e w3 ⟨v3, rfl, g3, cap3, rfl, hcap3, hown3, hg3, hb3⟩
    have HO3 := hide hown3
    have HB3 := hide hb3
    have HT3 := hide (HX.out.low hb3)
    obtain ⟨d0, d1, d2, d3, d4, -, d6, d7, d8, d9, -⟩ := HT3.out.reads
    rw [HN.out] at d2
    have df := fun i => HT3.out.b.frozen i
    have HLD := hide (HX.out.laid HB3.out HLN.out hcap3 hg3 HO3.out)
    obtain ⟨-, -, -, f3, f4, -, f6, f7, f8, f9, -⟩ := HLD.out.1.reads
    clear hown3 hb3
    go_wp2_with fail
    refine hK'.out _ _ ?_ (fun hHeld => ?_)
    · exact ⟨d3, d4, d6, d7, d8, d9⟩
    clear hK' K'
    (try simp only [Act.put, List.getElem_toArray, List.getElem_cons_succ, List.getElem_cons_zero, List.setIfInBounds_toArray, List.set_cons_zero, List.set_cons_succ])
    refine wpAnyH_at (i := 21) (v := ?v21) (d := 56) rfl rfl (by kernel_rfl) (by kernel_rfl) (by kernel_rfl) (fun _ _ _ h => h) (Or.inl ⟨by rfl, fun w' hSw => ?hy21⟩) (by assumption) ?rest21
    case hy21 =>
      (try dsimp only at hSw)
      go_simp
      (try with_reducible rfl)
    (try simp only [Act.put, List.setIfInBounds_toArray, List.set_cons_zero, List.set_cons_succ])
    refine wpAnyH_at (i := 22) (v := ?v22) (d := 57) rfl rfl (by kernel_rfl) (by kernel_rfl) (by kernel_rfl) (fun _ _ _ h => h) (Or.inl ⟨by rfl, fun w' hSw => ?hy22⟩) (by assumption) ?rest22
    case hy22 =>
      (try dsimp only at hSw)
      go_simp
      (try with_reducible rfl)
    (try simp only [Act.put, List.setIfInBounds_toArray, List.set_cons_zero, List.set_cons_succ])
    refine wpAnyH_ready (rs := [23]) (by kernel_rfl) (by simp) ?_
    refine AllReadyH.cons rfl (fun K' hK' => ?_) AllReadyH.nil
    go_simp
    refine hK'.out _ _ ?_ (fun hHeld => ?_)
    · exact ⟨f3, f4, f6, f7, f8, f9⟩
    clear hK' K'
    (try simp only [Act.put, List.getElem_toArray, List.getElem_cons_succ, List.getElem_cons_zero, List.setIfInBounds_toArray, List.set_cons_zero, List.set_cons_succ])
    refine wpAnyH_done (by kernel_rfl) ?_ _
    go_wp2_with fail
    go_meet
    exact ⟨rfl, hide ⟨g3, cap3, HLD.out.1, HLD.out.2, hg3⟩⟩
  case rest =>
    obtain ⟨rfl, H9⟩ := hcut
    obtain ⟨g3, cap3, H4, K4, hg3⟩ := H9.out
    have H4 := hide H4
    have K4 := hide (KX.out.thenG K4 (.inl rfl))
    have hg4 : g3 = g ∨ W.heap.size ≤ g3 := .inr (Nat.le_trans KX.out.size hg3)
    clear H9 HPU HX KX
    obtain ⟨-, c1, -, -, c4, -, -, -, -, -, c10, -⟩ := H4.out.reads
    have bf := fun i => H4.out.b.frozen i
    have HIK := hide (show inkT r ((2 : Nat) : Int) ⟨r, s.w, s.fg, s.bo, s.un, s.iv⟩ = inkT r ((2 : Nat) : Int) s from rfl)
    rw [HIK.out] at HL
    obtain ⟨Q, hQ⟩ : ∃ q : Nat, (if C ≤ col + 2 then C - 1 else col + 2) = q := ⟨_, rfl⟩
    have hmn : min ((col : Int) + 2) ((C : Int) - 1) = (Q : Int) := by rw [← hQ]; split <;> omega
    have HLF := hide (lay_form R C cs row col p s false bl r 2 (.inr rfl) Q (decide ((C : Int) ≤ (col : Int) + 2)) hQ (decide_eq_decide.2 (by omega)))
    rw [HL.out] at HLF
    clear hQ HL
    go_wp2_with fail
    go_region
    obtain ⟨U5, hU5, H5, K5⟩ := named (R := fun V => TrB w0 V z g3 cap3 ⟨R, C, L, row, col, p, s, decide ((C : Int) ≤ (col : Int) + 2), bl⟩ ∧ K2 z g W V) ⟨(H4.out.setZ ⟨R, C, L, row, col, p, s, decide ((C : Int) ≤ (col : Int) + 2), bl⟩ 10 (.bool (decide ((C : Int) ≤ (col : Int) + 2))) rfl rfl).low (Below.refl _ _).drew, (K4.out.trans (K2.set _ _ _ _ _)).trans K2.drew⟩
    rw [hU5]
    have H5 := hide H5
    have K5 := hide K5
    clear hU5 H4 K4 c1 c4 c10 bf
    obtain ⟨-, c1, -, -, c4, -, -, -, -, -, c10, -⟩ := H5.out.reads
    have bf := fun i => H5.out.b.frozen i
    go_wp2_with fail
    go_region
    go_wp2
    go_end0
    rw [HSH.out, HLF.out]
    exact Mr.mk ((H5.out.setZ ⟨R, C, L, row, Q, p, s, decide ((C : Int) ≤ (col : Int) + 2), bl⟩ 4 (.int .i64 (Q : Int)) rfl rfl).low (Below.refl _ _).drew) ((K5.out.trans (K2.set _ _ _ _ _)).trans K2.drew) hg4
set_option maxHeartbeats 4000000 in
theorem rtshow_d2 {w0 W : World} {z g cap : Nat} (t : Tm) (h : TrB w0 W z g cap t) (hI : Inv t) (r : Int) (hr : cells r = ((2 : Nat) : Int)) (hw : t.waits = false) (hc : t.col + 1 = t.cols) :
    Calls Tryd.prog 32 #[.pointer (some ⟨z, 0, none⟩), .int .i32 r] W (Mr w0 W z g (showM t r 2)) := by
  have HOF := hide (fun V => rof_is r ((2 : Nat) : Int) hr V)
  have HIV := hide hI
  have HR := hide hr
  obtain ⟨R, C, cs, row, col, p, s, wt, bl⟩ := t
  dsimp only at hw hc
  have hCb : 8 ≤ C ∧ C ≤ 200 := hI.hC
  have hcl : col < C := hI.hcol
  obtain ⟨cs1, row1, e1, e2⟩ := feed_col R C cs row 0 p s wt false bl
  have hI0 : Inv ⟨R, C, cs, row, 0, p, s, wt, bl⟩ := ⟨hI.hR, hI.hC, hI.hL, hI.hrow, by show 0 < C; omega, hI.hv, hI.hs⟩
  have HSH := hide (show showM ⟨R, C, cs, row, col, p, s, wt, bl⟩ r 2 = layM ⟨R, C, cs1, row1, 0, p, s, false, bl⟩ r 2 from by
    unfold showM
    rw [if_pos (by unfold wrapsB; dsimp only; rw [hw]; simp; omega)]
    show layM (feedM ⟨R, C, cs, row, 0, p, s, false, bl⟩) r 2 = _
    rw [e2])
  have HFD := hide (fun (V : World) (H : TrB w0 V z g cap ⟨R, C, cs, row, 0, p, s, wt, bl⟩) => (show Calls Tryd.prog _ _ V (Mr w0 V z g ⟨R, C, cs1, row1, 0, p, s, wt, bl⟩) from by have := rtfeed_any _ H hI0; rw [e1] at this; exact this))
  have hI1 : Inv ⟨R, C, cs1, row1, 0, p, s, wt, bl⟩ := by have := hI0.feed; rw [e1] at this; exact this
  have HI1 := hide hI1
  subst hw
  obtain ⟨-, c1, c2, -, c4, -, -, -, -, -, c10, -⟩ := h.reads
  have bf := fun i => h.b.frozen i
  have H := hide h
  obtain ⟨n, hn⟩ : ∃ n, cs.length = n := ⟨_, rfl⟩
  rw [hn] at c2
  have HN := hide hn
  have hcb : ((col : Int) + 1 == (C : Int)) = true := by rw [beq_iff_eq]; omega
  have hcb2 : ((col : Int) == (C : Int) - 1) = true := by rw [beq_iff_eq]; omega
  clear h hI hn hr
  go_enter Tryd.func32, Tryd.ntmps32
  go_wp2_with fail
  refine (HOF.out _).mono ?_; rintro e w1 ⟨rfl, hb1⟩
  have H1 := hide (H.out.low hb1)
  have K1 := hide (K2.of (z := z) (g := g) hb1)
  clear hb1 c1 c2 c4 c10 bf
  obtain ⟨-, c1, c2, -, c4, -, -, -, -, -, c10, -⟩ := H1.out.reads
  have bf := fun i => H1.out.b.frozen i
  go_wp2_with fail
  go_region
  go_wp2_with fail
  obtain ⟨U, hU, HU, KU⟩ := named (R := fun V => TrB w0 V z g cap ⟨R, C, cs, row, 0, p, s, false, bl⟩ ∧ K2 z g W V) ⟨(H1.out.setZ ⟨R, C, cs, row, 0, p, s, false, bl⟩ 4 (.int .i64 0) rfl rfl).low (Below.refl _ _).drew, (K1.out.trans (K2.set _ _ _ _ _)).trans K2.drew⟩
  rw [hU]
  have HU := hide HU
  have KU := hide KU
  clear hU H1 K1 c1 c2 c4 c10 bf H
  refine (HFD.out _ HU.out).mono ?_; rintro e w2 ⟨rfl, g2, cap2, H2, K2', hg2⟩
  have HX := hide H2
  have KX := hide (KU.out.thenG K2' (.inl rfl))
  have HGX := hide (show g2 = g ∨ W.heap.size ≤ g2 by rcases hg2 with e | e; exact .inl e; exact .inr (Nat.le_trans KU.out.size e))
  clear H2 K2' hg2 HU KU
  obtain ⟨n2, hn2⟩ : ∃ n, cs1.length = n := ⟨_, rfl⟩
  have hcm : 0 + 2 ≤ C := by omega
  have HPU := hide (fun V hV => rput_any (r := r) (m := 2) (row := row1) (col := 0) (x := ⟨r, s.w, s.fg, s.bo, s.un, s.iv⟩) HX.out HI1.out hn2 rfl (.inr rfl) HR.out HI1.out.hrow hcm HI1.out.hs V hV)
  dsimp only at HPU
  obtain ⟨L, hL⟩ : ∃ L, putL cs1 (row1 * C + 0) 2 (inkT r ((2 : Nat) : Int) ⟨r, s.w, s.fg, s.bo, s.un, s.iv⟩) = L := ⟨_, rfl⟩
  have hLn : L.length = n2 := by rw [← hL, put_len]; exact hn2
  have HL := hide hL
  have HLN := hide hLn
  rw [hL] at HPU
  clear hL hLn
  go_wp2_with fail
  go_cut [4] (fun v wx => v = .int .i64 ((2 : Nat) : Int) ∧ Hid (∃ g3 cap3, TrB w0 wx z g3 cap3 ⟨R, C, L, row1, 0, p, s, false, bl⟩ ∧ K2 z g2 w2 wx ∧ w2.heap.size ≤ g3))
  case first =>
    have hsz := HX.out.b.lt
    obtain ⟨c0, c1, c2, c3, c4, -, c6, c7, c8, c9, c10, -⟩ := HX.out.reads
    rw [hn2] at c2
    have bf := fun i => HX.out.b.frozen i
    have HBD := hide (show Below w2.heap.size w2 w2.drew from (Below.refl _ _).drew)
    have ez : ((0 : Nat) : Int) = 0 := rfl
    rw [ez] at c4 HPU
    clear ez
    refine wp_region_held_drew (S := (fun V => V.cell? ⟨z, 3, none⟩ = some (.int .i64 (row1 : Int)) ∧ V.cell? ⟨z, 4, none⟩ = some (.int .i64 0) ∧ V.cell? ⟨z, 6, none⟩ = some (.int .i64 s.fg) ∧ V.cell? ⟨z, 7, none⟩ = some (.bool s.bo) ∧ V.cell? ⟨z, 8, none⟩ = some (.bool s.un) ∧ V.cell? ⟨z, 9, none⟩ = some (.bool s.iv))) (by kernel_rfl) ?_ (fun hHeld => ?_)
    · exact ⟨c3, c4, c6, c7, c8, c9⟩
    refine wpAnyH_at (i := 0) (v := ?v0) (d := 35) rfl rfl (by kernel_rfl) (by kernel_rfl) (by kernel_rfl) (fun _ _ _ h => h) (Or.inl ⟨by rfl, fun w' hSw => ?hy0⟩) (by assumption) ?rest0
    case hy0 =>
      (try dsimp only at hSw)
      go_simp
      (try with_reducible rfl)
    (try simp only [Act.put, List.setIfInBounds_toArray, List.set_cons_zero, List.set_cons_succ])
    refine wpAnyH_at (i := 1) (v := ?v1) (d := 36) rfl rfl (by kernel_rfl) (by kernel_rfl) (by kernel_rfl) (fun _ _ _ h => h) (Or.inl ⟨by rfl, fun w' hSw => ?hy1⟩) (by assumption) ?rest1
    case hy1 =>
      (try dsimp only at hSw)
      go_simp
      (try with_reducible rfl)
    (try simp only [Act.put, List.setIfInBounds_toArray, List.set_cons_zero, List.set_cons_succ])
    refine wpAnyH_at (i := 2) (v := ?v2) (d := 37) rfl rfl (by kernel_rfl) (by kernel_rfl) (by kernel_rfl) (fun _ _ _ h => h) (Or.inl ⟨by rfl, fun w' hSw => ?hy2⟩) (by assumption) ?rest2
    case hy2 =>
      (try dsimp only at hSw)
      go_simp
      (try with_reducible rfl)
    (try simp only [Act.put, List.setIfInBounds_toArray, List.set_cons_zero, List.set_cons_succ])
    refine wpAnyH_at (i := 3) (v := ?v3) (d := 38) rfl rfl (by kernel_rfl) (by kernel_rfl) (by kernel_rfl) (fun _ _ _ h => h) (Or.inl ⟨by rfl, fun w' hSw => ?hy3⟩) (by assumption) ?rest3
    case hy3 =>
      (try dsimp only at hSw)
      go_simp
      (try with_reducible rfl)
    (try simp only [Act.put, List.setIfInBounds_toArray, List.set_cons_zero, List.set_cons_succ])
    refine wpAnyH_at (i := 5) (v := ?v5) (d := 40) rfl rfl (by kernel_rfl) (by kernel_rfl) (by kernel_rfl) (fun _ _ _ h => h) (Or.inl ⟨by rfl, fun w' hSw => ?hy5⟩) (by assumption) ?rest5
    case hy5 =>
      (try dsimp only at hSw)
      go_simp
      (try with_reducible rfl)
    (try simp only [Act.put, List.setIfInBounds_toArray, List.set_cons_zero, List.set_cons_succ])
    refine wpAnyH_at (i := 6) (v := ?v6) (d := 41) rfl rfl (by kernel_rfl) (by kernel_rfl) (by kernel_rfl) (fun _ _ _ h => h) (Or.inl ⟨by rfl, fun w' hSw => ?hy6⟩) (by assumption) ?rest6
    case hy6 =>
      (try dsimp only at hSw)
      go_simp
      (try with_reducible rfl)
    (try simp only [Act.put, List.setIfInBounds_toArray, List.set_cons_zero, List.set_cons_succ])
    refine wpAnyH_at (i := 7) (v := ?v7) (d := 42) rfl rfl (by kernel_rfl) (by kernel_rfl) (by kernel_rfl) (fun _ _ _ h => h) (Or.inl ⟨by rfl, fun w' hSw => ?hy7⟩) (by assumption) ?rest7
    case hy7 =>
      (try dsimp only at hSw)
      go_simp
      (try with_reducible rfl)
    (try simp only [Act.put, List.setIfInBounds_toArray, List.set_cons_zero, List.set_cons_succ])
    refine wpAnyH_at (i := 8) (v := ?v8) (d := 43) rfl rfl (by kernel_rfl) (by kernel_rfl) (by kernel_rfl) (fun _ _ _ h => h) (Or.inl ⟨by rfl, fun w' hSw => ?hy8⟩) (by assumption) ?rest8
    case hy8 =>
      (try dsimp only at hSw)
      go_simp
      (try with_reducible rfl)
    (try simp only [Act.put, List.setIfInBounds_toArray, List.set_cons_zero, List.set_cons_succ])
    refine wpAnyH_at (i := 9) (v := ?v9) (d := 44) rfl rfl (by kernel_rfl) (by kernel_rfl) (by kernel_rfl) (fun _ _ _ h => h) (Or.inl ⟨by rfl, fun w' hSw => ?hy9⟩) (by assumption) ?rest9
    case hy9 =>
      (try dsimp only at hSw)
      go_simp
      (try with_reducible rfl)
    (try simp only [Act.put, List.setIfInBounds_toArray, List.set_cons_zero, List.set_cons_succ])
    refine wpAnyH_at (i := 10) (v := ?v10) (d := 45) rfl rfl (by kernel_rfl) (by kernel_rfl) (by kernel_rfl) (fun _ _ _ h => h) (Or.inl ⟨by rfl, fun w' hSw => ?hy10⟩) (by assumption) ?rest10
    case hy10 =>
      (try dsimp only at hSw)
      go_simp
      (try with_reducible rfl)
    (try simp only [Act.put, List.setIfInBounds_toArray, List.set_cons_zero, List.set_cons_succ])
    refine wpAnyH_at (i := 11) (v := ?v11) (d := 46) rfl rfl (by kernel_rfl) (by kernel_rfl) (by kernel_rfl) (fun _ _ _ h => h) (Or.inl ⟨by rfl, fun w' hSw => ?hy11⟩) (by assumption) ?rest11
    case hy11 =>
      (try dsimp only at hSw)
      go_simp
      (try with_reducible rfl)
    (try simp only [Act.put, List.setIfInBounds_toArray, List.set_cons_zero, List.set_cons_succ])
    refine wpAnyH_at (i := 12) (v := ?v12) (d := 47) rfl rfl (by kernel_rfl) (by kernel_rfl) (by kernel_rfl) (fun _ _ _ h => h) (Or.inl ⟨by rfl, fun w' hSw => ?hy12⟩) (by assumption) ?rest12
    case hy12 =>
      (try dsimp only at hSw)
      go_simp
      (try with_reducible rfl)
    (try simp only [Act.put, List.setIfInBounds_toArray, List.set_cons_zero, List.set_cons_succ])
    refine wpAnyH_at (i := 13) (v := ?v13) (d := 48) rfl rfl (by kernel_rfl) (by kernel_rfl) (by kernel_rfl) (fun _ _ _ h => h) (Or.inl ⟨by rfl, fun w' hSw => ?hy13⟩) (by assumption) ?rest13
    case hy13 =>
      (try dsimp only at hSw)
      go_simp
      (try with_reducible rfl)
    (try simp only [Act.put, List.setIfInBounds_toArray, List.set_cons_zero, List.set_cons_succ])
    refine wpAnyH_at (i := 14) (v := ?v14) (d := 49) rfl rfl (by kernel_rfl) (by kernel_rfl) (by kernel_rfl) (fun _ _ _ h => h) (Or.inl ⟨by rfl, fun w' hSw => ?hy14⟩) (by assumption) ?rest14
    case hy14 =>
      (try dsimp only at hSw)
      go_simp
      (try with_reducible rfl)
    (try simp only [Act.put, List.setIfInBounds_toArray, List.set_cons_zero, List.set_cons_succ])
    refine wpAnyH_at (i := 15) (v := ?v15) (d := 50) rfl rfl (by kernel_rfl) (by kernel_rfl) (by kernel_rfl) (fun _ _ _ h => h) (Or.inl ⟨by rfl, fun w' hSw => ?hy15⟩) (by assumption) ?rest15
    case hy15 =>
      (try dsimp only at hSw)
      go_simp
      (try with_reducible rfl)
    (try simp only [Act.put, List.setIfInBounds_toArray, List.set_cons_zero, List.set_cons_succ])
    refine wpAnyH_at (i := 16) (v := ?v16) (d := 51) rfl rfl (by kernel_rfl) (by kernel_rfl) (by kernel_rfl) (fun _ _ _ h => h) (Or.inl ⟨by rfl, fun w' hSw => ?hy16⟩) (by assumption) ?rest16
    case hy16 =>
      (try dsimp only at hSw)
      go_simp
      (try with_reducible rfl)
    (try simp only [Act.put, List.setIfInBounds_toArray, List.set_cons_zero, List.set_cons_succ])
    refine wpAnyH_at (i := 17) (v := ?v17) (d := 52) rfl rfl (by kernel_rfl) (by kernel_rfl) (by kernel_rfl) (fun _ _ _ h => h) (Or.inl ⟨by rfl, fun w' hSw => ?hy17⟩) (by assumption) ?rest17
    case hy17 =>
      (try dsimp only at hSw)
      go_simp
      (try with_reducible rfl)
    (try simp only [Act.put, List.setIfInBounds_toArray, List.set_cons_zero, List.set_cons_succ])
    refine wpAnyH_at (i := 18) (v := ?v18) (d := 53) rfl rfl (by kernel_rfl) (by kernel_rfl) (by kernel_rfl) (fun _ _ _ h => h) (Or.inl ⟨by rfl, fun w' hSw => ?hy18⟩) (by assumption) ?rest18
    case hy18 =>
      (try dsimp only at hSw)
      go_simp
      (try with_reducible rfl)
    (try simp only [Act.put, List.setIfInBounds_toArray, List.set_cons_zero, List.set_cons_succ])
    refine wpAnyH_at (i := 19) (v := ?v19) (d := 54) rfl rfl (by kernel_rfl) (by kernel_rfl) (by kernel_rfl) (fun _ _ _ h => h) (Or.inl ⟨by rfl, fun w' hSw => ?hy19⟩) (by assumption) ?rest19
    case hy19 =>
      (try dsimp only at hSw)
      go_simp
      (try with_reducible rfl)
    (try simp only [Act.put, List.setIfInBounds_toArray, List.set_cons_zero, List.set_cons_succ])
    refine wpAnyH_ready (rs := [4]) (by kernel_rfl) (by simp) ?_
    refine AllReadyH.cons rfl (fun K' hK' => ?_) AllReadyH.nil
    go_simp
    refine hK'.out _ _ ?_ (fun hHeld => ?_)
    · exact ⟨c3, c4, c6, c7, c8, c9⟩
    clear hK' K'
    (try simp only [Act.put, List.getElem_toArray, List.getElem_cons_succ, List.getElem_cons_zero, List.setIfInBounds_toArray, List.set_cons_zero, List.set_cons_succ])
    refine wpAnyH_ready (rs := [20]) (by kernel_rfl) (by simp) ?_
    refine AllReadyH.cons rfl (fun K' hK' => ?_) AllReadyH.nil
    go_simp
    refine (HPU.out _ HBD.out).mono ?_; rintro e w3 ⟨v3, rfl, g3, cap3, rfl, hcap3, hown3, hg3, hb3⟩
    have HO3 := hide hown3
    have HB3 := hide hb3
    have HT3 := hide (HX.out.low hb3)
    obtain ⟨d0, d1, d2, d3, d4, -, d6, d7, d8, d9, -⟩ := HT3.out.reads
    rw [hn2] at d2
    rw [show ((0 : Nat) : Int) = 0 from rfl] at d4
    have df := fun i => HT3.out.b.frozen i
    have HLD := hide (HX.out.laid HB3.out HLN.out hcap3 hg3 HO3.out)
    obtain ⟨-, -, -, f3, f4, -, f6, f7, f8, f9, -⟩ := HLD.out.1.reads
    rw [show ((0 : Nat) : Int) = 0 from rfl] at f4
    clear hown3 hb3
    go_wp2_with fail
    refine hK'.out _ _ ?_ (fun hHeld => ?_)
    · exact ⟨d3, d4, d6, d7, d8, d9⟩
    clear hK' K'
    (try simp only [Act.put, List.getElem_toArray, List.getElem_cons_succ, List.getElem_cons_zero, List.setIfInBounds_toArray, List.set_cons_zero, List.set_cons_succ])
    refine wpAnyH_at (i := 21) (v := ?v21) (d := 56) rfl rfl (by kernel_rfl) (by kernel_rfl) (by kernel_rfl) (fun _ _ _ h => h) (Or.inl ⟨by rfl, fun w' hSw => ?hy21⟩) (by assumption) ?rest21
    case hy21 =>
      (try dsimp only at hSw)
      go_simp
      (try with_reducible rfl)
    (try simp only [Act.put, List.setIfInBounds_toArray, List.set_cons_zero, List.set_cons_succ])
    refine wpAnyH_at (i := 22) (v := ?v22) (d := 57) rfl rfl (by kernel_rfl) (by kernel_rfl) (by kernel_rfl) (fun _ _ _ h => h) (Or.inl ⟨by rfl, fun w' hSw => ?hy22⟩) (by assumption) ?rest22
    case hy22 =>
      (try dsimp only at hSw)
      go_simp
      (try with_reducible rfl)
    (try simp only [Act.put, List.setIfInBounds_toArray, List.set_cons_zero, List.set_cons_succ])
    refine wpAnyH_ready (rs := [23]) (by kernel_rfl) (by simp) ?_
    refine AllReadyH.cons rfl (fun K' hK' => ?_) AllReadyH.nil
    go_simp
    refine hK'.out _ _ ?_ (fun hHeld => ?_)
    · exact ⟨f3, f4, f6, f7, f8, f9⟩
    clear hK' K'
    (try simp only [Act.put, List.getElem_toArray, List.getElem_cons_succ, List.getElem_cons_zero, List.setIfInBounds_toArray, List.set_cons_zero, List.set_cons_succ])
    refine wpAnyH_done (by kernel_rfl) ?_ _
    go_wp2_with fail
    go_meet
    exact ⟨rfl, hide ⟨g3, cap3, HLD.out.1, HLD.out.2, hg3⟩⟩
  case rest =>
    obtain ⟨rfl, H9⟩ := hcut
    obtain ⟨g3, cap3, H4, K4, hg3⟩ := H9.out
    have H4 := hide H4
    have K4 := hide (KX.out.thenG K4 (HGX.out))
    have hg4 : g3 = g ∨ W.heap.size ≤ g3 := .inr (Nat.le_trans KX.out.size hg3)
    clear H9 HPU HX KX
    obtain ⟨-, c1, -, -, c4, -, -, -, -, -, c10, -⟩ := H4.out.reads
    have bf := fun i => H4.out.b.frozen i
    have ez : ((0 : Nat) : Int) = 0 := rfl
    rw [ez] at c4
    have HIK := hide (show inkT r ((2 : Nat) : Int) ⟨r, s.w, s.fg, s.bo, s.un, s.iv⟩ = inkT r ((2 : Nat) : Int) s from rfl)
    rw [HIK.out] at HL
    obtain ⟨Q, hQ⟩ : ∃ q : Nat, (if C ≤ 0 + 2 then C - 1 else 0 + 2) = q := ⟨_, rfl⟩
    have hmn : min (2) ((C : Int) - 1) = (Q : Int) := by rw [← hQ]; split <;> omega
    have HLF := hide (lay_form R C cs1 row1 0 p s false bl r 2 (.inr rfl) Q (decide ((C : Int) ≤ 2)) hQ (decide_eq_decide.2 (by omega)))
    rw [HL.out] at HLF
  
    clear hQ HL
    go_wp2_with fail
    go_region
    obtain ⟨U5, hU5, H5, K5⟩ := named (R := fun V => TrB w0 V z g3 cap3 ⟨R, C, L, row1, 0, p, s, decide ((C : Int) ≤ 2), bl⟩ ∧ K2 z g W V) ⟨(H4.out.setZ ⟨R, C, L, row1, 0, p, s, decide ((C : Int) ≤ 2), bl⟩ 10 (.bool (decide ((C : Int) ≤ 2))) rfl rfl).low (Below.refl _ _).drew, (K4.out.trans (K2.set _ _ _ _ _)).trans K2.drew⟩
    rw [hU5]
    have H5 := hide H5
    have K5 := hide K5
    clear hU5 H4 K4 c1 c4 c10 bf
    obtain ⟨-, c1, -, -, c4, -, -, -, -, -, c10, -⟩ := H5.out.reads
    have bf := fun i => H5.out.b.frozen i
    rw [ez] at c4
    go_wp2_with fail
    go_region
    go_wp2
    go_end0
    rw [HSH.out, HLF.out]
    exact Mr.mk ((H5.out.setZ ⟨R, C, L, row1, Q, p, s, decide ((C : Int) ≤ 2), bl⟩ 4 (.int .i64 (Q : Int)) rfl rfl).low (Below.refl _ _).drew) ((K5.out.trans (K2.set _ _ _ _ _)).trans K2.drew) hg4
theorem rtshow_any {w0 W : World} {z g cap : Nat} (t : Tm) (h : TrB w0 W z g cap t) (hI : Inv t) (r : Int) (m : Nat) (hm : m = 1 ∨ m = 2) (hr : cells r = m) :
    Calls Tryd.prog 32 #[.pointer (some ⟨z, 0, none⟩), .int .i32 r] W (Mr w0 W z g (showM t r m)) := by
  by_cases hw : t.waits = true
  · exact rtshow_w t h hI r m hm hr hw
  · have hwf : t.waits = false := by simpa using hw
    rcases hm with rfl | rfl
    · exact rtshow_n1 t h hI r hr hwf
    · by_cases hd : t.col + 1 = t.cols
      · exact rtshow_d2 t h hI r hr hwf hd
      · exact rtshow_n2 t h hI r hr hwf hd
end Go.Proofs.YtmemdhmjhckmaaaDoor
